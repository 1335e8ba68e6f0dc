import Derived.Test.YtnblbneehogadaaH4F
/- Contract: a watcher's grow. -/
namespace Go.Proofs.Ytnblbneehogadaa
open Go.RowKit
theorem make_ev (n : Nat) (hn : n ≤ 200000) (w : World) : (Instr.makeSlice 38 (.int .i64 (n : Int)) (.int .i64 (n : Int))).run Try.prog w = .ok (.slice (some ⟨w.heap.size, 0, none⟩) n n) (w.alloc (.cells (xs (List.replicate n zX)).toArray 30)) := by
  obtain ⟨i, hi, he⟩ := Option.map_eq_some_iff.1 infoEvt
  simp only [Prod.mk.injEq] at he
  obtain ⟨e1, e2, e3⟩ := he
  have h9 := run_makeSlice (P := Try.prog) (w := w) 38 30 i (.agg #[.int .i64 0, .string ⟨#[]⟩, .slice none 0 0, .int .u64 0, .int .u64 0, .int .u64 0]) Try.underlying38 hi e1 .i64 .i64 n n (by omega) (Int.le_refl _) (by rw [e2]; omega) (by rw [e3]; omega) (by omega)
  rw [e2] at h9
  simp only [Int.toNat_natCast] at h9
  rw [h9]
  have : madeCells (Value.agg #[.int .i64 0, .string ⟨#[]⟩, .slice none 0 0, .int .u64 0, .int .u64 0, .int .u64 0]).cells (n * 6) = (xs (List.replicate n zX)).toArray := by
    apply Array.ext'
    show (madeCells #[.int .i64 0, .string ⟨#[]⟩, .slice none 0 0, .int .u64 0, .int .u64 0, .int .u64 0] (n * 6)).toList = xs (List.replicate n zX)
    apply List.ext_getElem?
    intro j
    by_cases hj : j < n * 6
    · have hd : 6 * (j / 6) + j % 6 = j := Nat.div_add_mod j 6
      have hi : j / 6 < (List.replicate n zX).length := by rw [List.length_replicate]; omega
      have hm := Nat.mod_lt j (show 0 < 6 by decide)
      have := xs_at (List.replicate n zX) (j / 6) (j % 6) hi hm
      rw [hd] at this
      rw [this, List.getElem_replicate]
      have e : j % 6 = 0 ∨ j % 6 = 1 ∨ j % 6 = 2 ∨ j % 6 = 3 ∨ j % 6 = 4 ∨ j % 6 = 5 := by omega
      rcases e with e | e | e | e | e | e <;> simp [madeCells, hj, e, xC, zX]
    · rw [List.getElem?_eq_none (by simp [madeCells]; omega), List.getElem?_eq_none (by rw [xs_len, List.length_replicate]; omega)]
  rw [this]
theorem step_min_run {P : Program} {w : World} {ops : Array Oper} {o : Oper} {a : Act} {K : Act → World → Prop} {Q : Exit → Act → World → Prop} {E : Prop} (hgd : o.guard = none) (s x : Operand) (t t' : TypeId)
    (ho : o.op = .call { callee := .builtin .min, args := #[s, x], argTypes := #[t, t'] }) (p q r : Int) (hs : a.eval s = .int .i64 p) (hx : a.eval x = .int .i64 q) (hr : min p q = r)
    (h : K (a.put o.dst (.int .i64 r)) w) :
    if Region.wanted o (yielded ops a.tmps) = true then Oper.wp P o a w K Q else E := by
  have hw : Region.wanted o (yielded ops a.tmps) = true := by simp [Region.wanted, hgd]
  rw [if_pos hw]
  unfold Oper.wp execOp
  simp only [ho, resolve, invoke, builtin, Sem.run_bind, Sem.run_pure, Result.andThen_ok, List.map_toArray, List.map_cons, List.map_nil, hs, hx, run_min_int, hr]
  exact h
theorem meas_dec (m t : Nat) (h : t < m) : m - (((t : Nat) : Int) + 1).toNat < m - ((t : Nat) : Int).toNat := by omega
/-- What grow leaves. -/
def GrPost (base : Nat) (x : WtX) (w : World) (e : Ending) (w' : World) : Prop :=
  e = .returned (.tuple #[]) ∧ ∃ x' : WtX, x'.B = x.B ∧ x'.pre = x.pre ∧ x'.kv = x.kv ∧ x'.ks = x.ks ∧ x'.room = x.room ∧ x'.old = x.old ∧ x'.lost = x.lost ∧ x'.m = x.m ∧ x'.m < x'.R.length ∧ x'.wait = x.wait ∧ WOk base w' x' ∧ Mut (fun j => j ∈ x.fp) w w' ∧ ∀ b ∈ x'.fp, b ∈ x.fp ∨ w.heap.size ≤ b
set_option maxRecDepth 100000 in
set_option maxHeartbeats 4000000 in
theorem grow_any (base : Nat) (x : WtX) (w : World) (h : WOk base w x) (hr : x.R.length < x.room) (hb : base ≤ w.heap.size) :
    Calls Try.prog 54 #[.pointer (some ⟨x.B, 0, none⟩)] w (GrPost base x w) := by
  obtain ⟨m0, m1, m2, m3, m4, m5, m6, m7⟩ := blk8 h.hd
  obtain ⟨ra, rc, hv⟩ := row_shape h.row
  have hl1 : x.R.length ≤ 1000 := Nat.le_trans h.fit h.room2
  have hrm := h.room2
  have hml := h.mle
  have H := Box.mk h
  obtain ⟨Post, hPost⟩ : ∃ P, P = GrPost base x w := ⟨_, rfl⟩
  rw [← hPost]
  have HP := Box.mk hPost
  rw [hv] at m4
  clear hPost h
  by_cases hlt : x.m < x.R.length
  · have d1 : decide ((x.m : Int) < (x.R.length : Int)) = true := decide_eq_true (by omega)
    have d2 : decide (x.m < x.R.length) = true := decide_eq_true hlt
    go_enter Try.func54, Try.ntmps54
    go_upto_region 0 with (fail)
    go_region_held3 (fun w' => w'.cell? ⟨x.B, 4, none⟩ = some (.slice ra x.R.length rc) ∧ w'.cell? ⟨x.B, 6, none⟩ = some (.int .i64 (x.m : Nat)))
      (go_keep)
      (fail)
    have hx : Ext w w.drew := Ext.drew1 (Below.refl _ _)
    replace hx := Box.mk hx
    go_wp2
    rw [HP.out]
    go_end0
    exact ⟨rfl, x, rfl, rfl, rfl, rfl, rfl, rfl, rfl, rfl, hlt, rfl, H.out.ext hx.out, Mut.of_ext hx.out, fun b hb => Or.inl hb⟩
  · have hme : x.m = x.R.length := by omega
    have hlen4 : x.R.length < x.R.length * 2 + 4 := by omega
    obtain ⟨n2, hn2, hn3, hn4⟩ : ∃ n2 : Nat, min (x.room : Int) (2 * (x.R.length : Int) + 4) = (n2 : Int) ∧ x.R.length < n2 ∧ n2 ≤ x.room := by
      rcases Nat.le_total x.room (2 * x.R.length + 4) with h1 | h1
      · exact ⟨x.room, by omega, hr, Nat.le_refl _⟩
      · exact ⟨2 * x.R.length + 4, by omega, by omega, h1⟩
    have d1 : decide ((x.m : Int) < (x.R.length : Int)) = false := decide_eq_false (by omega)
    have d2 : decide (x.m < x.R.length) = false := decide_eq_false hlt
    have q1 : IntKind.i64.wrap (2 * (x.R.length : Int)) = 2 * (x.R.length : Int) := by rw [IntKind.wrap_i64]; omega
    have q2 : IntKind.i64.wrap (2 * (x.R.length : Int) + 4) = 2 * (x.R.length : Int) + 4 := by rw [IntKind.wrap_i64]; omega
    have hmk := make_ev n2 (by omega)
    have hBlt := blk_lt H.out.hd
    go_enter Try.func54, Try.ntmps54
    go_upto_region 0 with (fail)
    go_region_held3 (fun w' => w'.cell? ⟨x.B, 4, none⟩ = some (.slice ra x.R.length rc) ∧ w'.cell? ⟨x.B, 6, none⟩ = some (.int .i64 (x.m : Nat)))
      (go_keep)
      (fail)
    go_upto_region 1 with (fail)
    go_region_held3 (fun w' => w'.cell? ⟨x.B, 2, none⟩ = some (.int .i64 (x.room : Nat)) ∧ w'.cell? ⟨x.B, 4, none⟩ = some (.slice ra x.R.length rc))
      (go_keep)
      (refine step_min_run rfl _ _ _ _ rfl _ _ (n2 : Int) rfl rfl hn2 ?_)
    have hx0 : Ext w (w.alloc (.cells (xs (List.replicate n2 zX)).toArray 30)).drew.drew := Ext.trans' (Ext.drew1 (Ext.alloc (Below.refl _ w) _)) (Ext.drew1 (Below.refl _ _))
    have hG0 : (w.alloc (.cells (xs (List.replicate n2 zX)).toArray 30)).drew.drew.heap[w.heap.size]? = some (.cells (xs (List.replicate n2 zX)).toArray 30 (0, 0)) := newblk w _
    have hrow0 : (w.alloc (.cells (xs (List.replicate n2 zX)).toArray 30)).drew.drew.ownsRow w.heap.size 30 6 (.slice (some ⟨w.heap.size, 0, none⟩) n2 n2) n2 (xs (bigR x.R x.f x.m n2 0)) := by
      have e0 : bigR x.R x.f x.m n2 0 = List.replicate n2 zX := by unfold bigR; simp
      rw [e0]
      have hl9 : (xs (List.replicate n2 zX)).length = n2 * 6 := by rw [xs_len, List.length_replicate, Nat.mul_comm]
      exact ⟨hl9, Or.inr ⟨w.heap.size, n2, _, rfl, Nat.le_refl _, hG0, Nat.le_refl _, by unfold maxLen; omega, by rw [List.size_toArray, hl9], by rw [List.toList_toArray, List.take_of_length_le (by omega)]⟩⟩
    replace hx0 := Box.mk hx0
    replace hrow0 := Box.mk hrow0
    clear hG0 hmk
    obtain ⟨G, hG⟩ : ∃ G, G = w.heap.size := ⟨_, rfl⟩
    rw [← hG] at hrow0 hBlt
    simp only [← hG]
    have hGb : base ≤ G := by omega
    replace hG := Box.mk hG
    generalize (w.alloc (.cells (xs (List.replicate n2 zX)).toArray 30)).drew.drew = w0 at *
    clear m0 m1 m2 m3 m4 m5 m6 m7 q1 q2 d1 d2
    obtain ⟨m0, m1, m2, m3, m4, m5, m6, m7⟩ := blk8 (Ext.blk hx0.out H.out.hd)
    have hxm : (x.m : Int) = (x.R.length : Int) := by omega
    replace hme := Box.mk hme
    replace hxm := Box.mk hxm
    go_wp2
    clear m0 m1 m2 m3 m4 m5 m6 m7
    go_loopw [32] (fun iv wr => ∃ t : Nat, t ≤ x.m ∧ iv = .int .i64 (t : Nat) ∧ Box (Ext w wr) ∧ Box (wr.ownsRow G 30 6 (.slice (some ⟨G, 0, none⟩) n2 n2) n2 (xs (bigR x.R x.f x.m n2 t)))) (fun iv _ => x.m - (intOf iv).toNat)
    case atStart => exact ⟨0, Nat.zero_le _, rfl, hx0, hrow0⟩
    case round =>
      obtain ⟨t, htm, rfl, hE, hB⟩ := hrel
      have hd := Ext.blk hE.out H.out.hd
      obtain ⟨m0, m1, m2, m3, m4, m5, m6, m7⟩ := blk8 hd
      rw [hv] at m4
      by_cases ht : t < x.m
      · have hf : x.f < x.R.length := by
          rcases H.out.fl with h1 | ⟨h1, _⟩
          · exact h1
          · have := H.out.mle; rw [h1] at this; simp at this; omega
        obtain ⟨p, hp⟩ : ∃ p, p = (x.f + t) % x.R.length := ⟨_, rfl⟩
        have hpl : p < x.R.length := by rw [hp]; exact Nat.mod_lt _ (by omega)
        obtain ⟨g, c, hv2, hgb, _⟩ := row_put H.out.row x.f hf zX
        rw [hv] at hv2
        simp only [Value.slice.injEq, true_and] at hv2
        obtain ⟨rfl, rfl⟩ := hv2
        obtain ⟨r0, r1, r2, r3, r4, r5⟩ := row_cells (ownsRow_ext hE.out H.out.row) p hpl g rc hv
        obtain ⟨ua, uc, hu⟩ := (H.out.own x.R[p] (List.getElem_mem hpl)).2.shape
        have hglt : g < w.heap.size := (H.out.types (fp_mem.2 (Or.inr (Or.inl (by rw [hv]; rfl))))).2.1
        have hGw := hG.out
        have hgG : g ≠ G := by omega
        have hBG : x.B ≠ G := by omega
        have hbl := bigR_len x.R x.f x.m n2 t htm (by rw [hme.out]; omega)
        have hbs := bigR_set x.R x.f x.m n2 t ht (by rw [hme.out]; omega)
        rw [← hp] at hbs
        have hgd : x.R.getD p zX = x.R[p] := by rw [List.getD_eq_getElem?_getD, List.getElem?_eq_getElem hpl]; rfl
        rw [hgd] at hbs
        have htn : t < n2 := by have := hme.out; omega
        obtain ⟨g', c', hv', _, _, hgf, hrow', hmut'⟩ := row_put (R := bigR x.R x.f x.m n2 t) (by rw [hbl]; exact hB.out) t (by rw [hbl]; exact htn) x.R[p]
        obtain ⟨z0, z1, z2, z3, z4, z5⟩ := row_cells (R := bigR x.R x.f x.m n2 t) (by rw [hbl]; exact hB.out) t (by rw [hbl]; exact htn) G n2 (by rw [hbl])
        generalize (bigR x.R x.f x.m n2 t)[t] = ez at z0 z1 z2 z3 z4 z5
        simp only [Value.slice.injEq, Option.some.injEq, Addr.mk.injEq] at hv'
        obtain ⟨⟨rfl, -, -⟩, -, -⟩ := hv'
        rw [hbl, hbs] at hrow'
        rw [show xC x.R[p] = [.int .i64 x.R[p].k, .string x.R[p].s, x.R[p].u, .int .u64 x.R[p].b, .int .u64 x.R[p].d, .int .u64 x.R[p].t] from rfl, hu, setCells6] at hrow' hmut'
        rw [hu] at r2
        have hE2 := hmut'.ext w hE.out (fun j e => by rw [e]; exact Nat.le_of_eq hGw.symm)
        clear hbs hgd hu
        generalize x.R[p] = y at *
        have n0 : (0 : Int) ≤ (t : Int) := by omega
        have n1 : (t : Int) < (n2 : Int) := by omega
        have n2' : decide ((t : Int) < (x.m : Int)) = true := decide_eq_true (by omega)
        have n3 : decide (t < x.m) = true := decide_eq_true ht
        have n4 : (t : Int) < (x.m : Int) := by omega
        have n5 : (t : Int) < (x.R.length : Int) := by rw [← hxm.out]; exact n4
        have n6 : t < x.R.length := by rw [← hme.out]; exact ht
        have o0 : (0 : Int) ≤ (p : Int) := by omega
        have o1 : (p : Int) < (x.R.length : Int) := by omega
        have q0 : ¬ x.R.length = 0 := by omega
        have q1 : IntKind.i64.wrap ((x.f : Int) + (t : Int)) = (x.f : Int) + (t : Int) := by have := H.out.mle; rw [IntKind.wrap_i64]; omega
        have q2 : ((x.f : Int) + (t : Int)).tmod (x.R.length : Int) = ((p : Nat) : Int) := by rw [hp]; exact tmod_nat (x.f + t) x.R.length
        have q3 : IntKind.i64.wrap ((t : Int) + 1) = (t : Int) + 1 := by have := H.out.mle; rw [IntKind.wrap_i64]; omega
        replace hp := Box.mk hp
        replace hrow' := Box.mk hrow'
        replace hE2 := Box.mk hE2
        have hd2 := Ext.blk hE2.out H.out.hd
        have hm4 : Box (((((((wr.setCell ⟨G, t * 6, none⟩ (.int .i64 y.k)).setCell ⟨G, t * 6 + 1, none⟩ (.string y.s)).setCell ⟨G, t * 6 + 2, none⟩ (.slice ua y.l.length uc)).setCell ⟨G, t * 6 + 3, none⟩ (.int .u64 y.b)).setCell ⟨G, t * 6 + 4, none⟩ (.int .u64 y.d)).setCell ⟨G, t * 6 + 5, none⟩ (.int .u64 y.t)).cell? ⟨x.B, 4, none⟩ = some (.slice (some ⟨g, 0, none⟩) x.R.length rc)) := ⟨by rw [← hv]; exact (blk8 hd2).2.2.2.2.1⟩
        have hm5 : Box (((((((wr.setCell ⟨G, t * 6, none⟩ (.int .i64 y.k)).setCell ⟨G, t * 6 + 1, none⟩ (.string y.s)).setCell ⟨G, t * 6 + 2, none⟩ (.slice ua y.l.length uc)).setCell ⟨G, t * 6 + 3, none⟩ (.int .u64 y.b)).setCell ⟨G, t * 6 + 4, none⟩ (.int .u64 y.d)).setCell ⟨G, t * 6 + 5, none⟩ (.int .u64 y.t)).cell? ⟨x.B, 5, none⟩ = some (.int .i64 (x.f : Nat))) := ⟨(blk8 hd2).2.2.2.2.2.1⟩
        have hB' := Box.mk (ownsRow_ext hE2.out H.out.row)
        have hk9 : Box (∀ j v, wr.cell? ⟨g, j, none⟩ = some v → ((((((wr.setCell ⟨G, t * 6, none⟩ (.int .i64 y.k)).setCell ⟨G, t * 6 + 1, none⟩ (.string y.s)).setCell ⟨G, t * 6 + 2, none⟩ (.slice ua y.l.length uc)).setCell ⟨G, t * 6 + 3, none⟩ (.int .u64 y.b)).setCell ⟨G, t * 6 + 4, none⟩ (.int .u64 y.d)).setCell ⟨G, t * 6 + 5, none⟩ (.int .u64 y.t)).cell? ⟨g, j, none⟩ = some v) := ⟨fun j v h => (cell_of_block (hmut'.other g (Nat.lt_of_lt_of_le hglt hE.out.size) hgG) j).trans h⟩
        clear hmut' hd2 hd hGw
        go_upto_region 5 with (fail)
        go_region_held3 (fun w' => (w'.cell? ⟨x.B, 4, none⟩ = some (.slice (some ⟨g, 0, none⟩) x.R.length rc) ∧ w'.cell? ⟨x.B, 5, none⟩ = some (.int .i64 (x.f : Nat))) ∧ (w'.cell? ⟨g, p * 6, none⟩ = some (.int .i64 y.k) ∧ w'.cell? ⟨g, p * 6 + 1, none⟩ = some (.string y.s) ∧ w'.cell? ⟨g, p * 6 + 2, none⟩ = some (.slice ua y.l.length uc) ∧ w'.cell? ⟨g, p * 6 + 3, none⟩ = some (.int .u64 y.b) ∧ w'.cell? ⟨g, p * 6 + 4, none⟩ = some (.int .u64 y.d) ∧ w'.cell? ⟨g, p * 6 + 5, none⟩ = some (.int .u64 y.t)))
          (first
            | (with_reducible exact ⟨⟨keepd m4, keepd m5⟩, keepd r0, keepd r1, keepd r2, keepd r3, keepd r4, keepd r5⟩)
            | (with_reducible exact ⟨⟨keepd hm4.out, keepd hm5.out⟩, keepd (hk9.out _ _ r0), keepd (hk9.out _ _ r1), keepd (hk9.out _ _ r2), keepd (hk9.out _ _ r3), keepd (hk9.out _ _ r4), keepd (hk9.out _ _ r5)⟩)
            | go_keep)
          (fail)
        have hle : t + 1 ≤ x.m := ht
        have hms := meas_dec x.m t ht
        go_wp2
        clear q1 q2
        exact ⟨⟨t + 1, hle, congrArg (Value.int .i64) (Int.natCast_succ t).symm, ⟨Ext.drew1 hE2.out⟩, ⟨ownsRow_ext (Ext.drew1 (Below.refl _ _)) hrow'.out⟩⟩, hms⟩
      · obtain rfl : t = x.m := by omega
        have d2' : decide ((x.m : Int) < (x.m : Int)) = false := decide_eq_false (by omega)
        have hz1 : wr.frozen? ⟨x.B, 4, none⟩ = false := Lib.frozen_of_heap hd 4
        have hz2 : wr.frozen? ⟨x.B, 5, none⟩ = false := Lib.frozen_of_heap hd 5
        have hB3 := blk_lt hd
        have hs1 : (wr.setCell ⟨x.B, 4, none⟩ (.slice (some ⟨G, 0, none⟩) n2 n2)).heap[x.B]? = some (.cells #[.string x.pre, x.kv, .int .i64 (x.room : Nat), .bool x.old, .slice (some ⟨G, 0, none⟩) n2 n2, .int .i64 (x.f : Nat), .int .i64 (x.m : Nat), .int .i64 (x.lost : Nat)] 76 (0, 0)) := heap_setCell_same wr x.B 4 _ _ _ hd
        have hs2 : ((wr.setCell ⟨x.B, 4, none⟩ (.slice (some ⟨G, 0, none⟩) n2 n2)).setCell ⟨x.B, 5, none⟩ (.int .i64 0)).heap[x.B]? = some (.cells #[.string x.pre, x.kv, .int .i64 (x.room : Nat), .bool x.old, .slice (some ⟨G, 0, none⟩) n2 n2, .int .i64 (0 : Nat), .int .i64 (x.m : Nat), .int .i64 (x.lost : Nat)] 76 (0, 0)) := heap_setCell_same _ x.B 5 _ _ _ hs1
        have hfin := grow_fin H.out hme.out hn3 hn4 hE.out hB.out hG.out hb hs2
        replace hfin := Box.mk hfin
        clear hs1 hs2 hd
        go_wp2
        rw [HP.out]
        go_end0
        exact ⟨rfl, { x with rv := .slice (some ⟨G, 0, none⟩) n2 n2, R := bigR x.R x.f x.m n2 x.m, f := 0 }, rfl, rfl, rfl, rfl, rfl, rfl, rfl, rfl, hfin.out⟩
end Go.Proofs.Ytnblbneehogadaa
