import Derived.Test.YtnblbneehogadaaH2
/- Contracts: a watcher's take, grow, put. -/
namespace Go.Proofs.Ytnblbneehogadaa
open Go.RowKit
theorem xs_set (R : List EvX) (i : Nat) (v : EvX) (hi : i < R.length) : xs (R.set i v) = (xs R).take (i * 6) ++ xC v ++ (xs R).drop (i * 6 + 6) := by
  have e1 : R.set i v = R.take i ++ v :: R.drop (i + 1) := List.set_eq_take_append_cons_drop.trans (by rw [if_pos hi])
  have e2 : R = R.take i ++ R[i] :: R.drop (i + 1) := by rw [List.getElem_cons_drop, List.take_append_drop]
  have hl : (xs (R.take i)).length = i * 6 := by rw [xs_len, List.length_take, Nat.min_eq_left (Nat.le_of_lt hi), Nat.mul_comm]
  have h3 : xs R = xs (R.take i) ++ (xC R[i] ++ xs (R.drop (i + 1))) := by
    conv => lhs; rw [e2]
    rw [xs_app]; rfl
  have e4 : (xs R).take (i * 6) = xs (R.take i) := by
    rw [h3, List.take_append_of_le_length (by omega), List.take_of_length_le (by omega)]
  have e5 : (xs R).drop (i * 6 + 6) = xs (R.drop (i + 1)) := by
    rw [h3, ← List.append_assoc]
    have : (xs (R.take i) ++ xC R[i]).length = i * 6 + 6 := by rw [List.length_append, hl]; rfl
    rw [← this, List.drop_left]
  rw [e1, xs_app, e4, e5, List.append_assoc]
  rfl
theorem take_mid {α : Type} (cur A : List α) (o n : Nat) (ho : o + A.length ≤ n) (hn : n ≤ cur.length) : (cur.take o ++ A ++ cur.drop (o + A.length)).take n = (cur.take n).take o ++ A ++ (cur.take n).drop (o + A.length) := by
  have hX : (cur.take o ++ A).length = o + A.length := by rw [List.length_append, List.length_take]; omega
  rw [List.take_append, List.take_of_length_le (by omega), hX, List.take_take, Nat.min_eq_left (by omega), List.drop_take]
/-- An element of a row is stored. -/
theorem row_put {w : World} {base : Nat} {v : Value} {R : List EvX} (h : w.ownsRow base 30 6 v R.length (xs R)) (i : Nat) (hi : i < R.length) (y : EvX) : ∃ g c, v = .slice (some ⟨g, 0, none⟩) R.length c ∧ base ≤ g ∧ g < w.heap.size ∧ (∀ j, w.frozen? ⟨g, j, none⟩ = false) ∧
    (w.setCells g (i * 6) (xC y)).ownsRow base 30 6 v R.length (xs (R.set i y)) ∧ Mut (fun j => j = g) w (w.setCells g (i * 6) (xC y)) := by
  rcases h.2 with ⟨_, h0⟩ | ⟨g, cap, cur, rfl, hb, hg, hnc, hcm, hcs, htk⟩
  · omega
  · have hxl := xs_len R
    obtain ⟨cur, rfl⟩ : ∃ l : List Value, cur = l.toArray := ⟨cur.toList, by simp⟩
    simp only [List.size_toArray, List.toList_toArray] at hcs htk
    have hlen : i * 6 + (xC y).length ≤ cur.length := by
      have h1 := congrArg List.length htk
      rw [List.length_take, hxl] at h1
      have : (xC y).length = 6 := rfl
      omega
    obtain ⟨q1, q2, q3, q4, q5, q6⟩ := setCells_heap6 (xC y) (i * 6) cur w hg hlen
    refine ⟨g, cap, rfl, hb, blk_lt hg, fun j => Lib.frozen_of_heap hg j, ⟨by rw [xs_len, List.length_set]; omega, Or.inr ⟨g, cap, _, rfl, hb, q1, hnc, hcm, ?_, ?_⟩⟩, ⟨by rw [q3]; exact Nat.le_refl _, fun j _ hj => q2 j hj, fun w0 h0 h1 => ⟨q4.trans h0.os, q5.trans h0.tape, q6.trans h0.output, by rw [q3]; exact h0.size, fun j hj => (q2 j (fun e => by have := h1 g rfl; omega)).trans (h0.block j hj)⟩⟩⟩
    · have h6 : (xC y).length = 6 := rfl
      rw [List.size_toArray, List.length_append, List.length_append, List.length_take, List.length_drop]
      omega
    · have h6 : (xC y).length = 6 := rfl
      have hl : R.length * 6 ≤ cur.length := by
        have h1 := congrArg List.length htk
        rw [List.length_take, hxl] at h1
        omega
      rw [xs_set R i y hi, ← htk, List.toList_toArray, take_mid cur (xC y) (i * 6) (R.length * 6) (by omega) hl, h6]
/-- The cells of an element of a row. -/
theorem row_cells {w : World} {base : Nat} {v : Value} {R : List EvX} (h : w.ownsRow base 30 6 v R.length (xs R)) (i : Nat) (hi : i < R.length) (g c : Nat) (hv : v = .slice (some ⟨g, 0, none⟩) R.length c) :
    w.cell? ⟨g, i * 6, none⟩ = some (.int .i64 R[i].k) ∧ w.cell? ⟨g, i * 6 + 1, none⟩ = some (.string R[i].s) ∧ w.cell? ⟨g, i * 6 + 2, none⟩ = some R[i].u ∧ w.cell? ⟨g, i * 6 + 3, none⟩ = some (.int .u64 R[i].b) ∧ w.cell? ⟨g, i * 6 + 4, none⟩ = some (.int .u64 R[i].d) ∧ w.cell? ⟨g, i * 6 + 5, none⟩ = some (.int .u64 R[i].t) := by
  subst hv
  have hc : CellsAt w (some ⟨g, 0, none⟩) (xs R) := fun j u hj => ⟨g, 0, rfl, by
    have := h.cells (g := g) rfl j u hj
    rw [Go.WideShapes.add_plain] at this
    rw [Nat.zero_add]
    rw [Nat.zero_add] at this
    exact this⟩
  obtain ⟨b, o, he, h0, h1, h2, h3, h4, h5⟩ := Xs.row hc i hi
  simp only [Option.some.injEq, Addr.mk.injEq] at he
  obtain ⟨rfl, rfl, -⟩ := he
  rw [Nat.zero_add] at h0 h1 h2 h3 h4 h5
  exact ⟨h0, h1, h2, h3, h4, h5⟩
theorem blk8 {w : World} {B : Nat} {c0 c1 c2 c3 c4 c5 c6 c7 : Value} {T : TypeId} (h : w.heap[B]? = some (.cells #[c0, c1, c2, c3, c4, c5, c6, c7] T (0, 0))) : w.cell? ⟨B, 0, none⟩ = some c0 ∧ w.cell? ⟨B, 1, none⟩ = some c1 ∧ w.cell? ⟨B, 2, none⟩ = some c2 ∧ w.cell? ⟨B, 3, none⟩ = some c3 ∧ w.cell? ⟨B, 4, none⟩ = some c4 ∧ w.cell? ⟨B, 5, none⟩ = some c5 ∧ w.cell? ⟨B, 6, none⟩ = some c6 ∧ w.cell? ⟨B, 7, none⟩ = some c7 := by
  refine ⟨?_, ?_, ?_, ?_, ?_, ?_, ?_, ?_⟩ <;> (rw [Lib.cell_of_heap h]; rfl)
theorem rem_nat (a b : Nat) (_ : 0 < b) : IntKind.i64.wrap (((a : Int)).tmod (b : Int)) = ((a % b : Nat) : Int) ∨ True := Or.inr trivial

def P6 (w : World) (g o : Nat) (a b c d e f : Value) : World := (((((w.setCell ⟨g, o, none⟩ a).setCell ⟨g, o + 1, none⟩ b).setCell ⟨g, o + 2, none⟩ c).setCell ⟨g, o + 3, none⟩ d).setCell ⟨g, o + 4, none⟩ e).setCell ⟨g, o + 5, none⟩ f
theorem setCells6 (w : World) (g o : Nat) (a b c d e f : Value) : w.setCells g o [a, b, c, d, e, f] = (((((w.setCell ⟨g, o, none⟩ a).setCell ⟨g, o + 1, none⟩ b).setCell ⟨g, o + 2, none⟩ c).setCell ⟨g, o + 3, none⟩ d).setCell ⟨g, o + 4, none⟩ e).setCell ⟨g, o + 5, none⟩ f := rfl
theorem keep2 {W1 : World} {o1 o2 : Obj} {B o : Nat} {v : Value} (h : W1.cell? ⟨B, o, none⟩ = some v) : ((W1.alloc o1).alloc o2).drew.drew.cell? ⟨B, o, none⟩ = some v :=
  Ext.cell (Ext.trans' (Ext.drew1 (Ext.alloc (Ext.alloc (Below.refl _ W1) o1) o2)) (Ext.drew1 (Below.refl _ _))) h
theorem keep1 {W1 : World} {o1 o2 : Obj} {B o : Nat} {v : Value} (h : W1.cell? ⟨B, o, none⟩ = some v) : ((W1.alloc o1).drew.alloc o2).drew.cell? ⟨B, o, none⟩ = some v :=
  Ext.cell (Ext.drew1 (Ext.alloc (Ext.trans' (Ext.alloc (Below.refl _ W1) o1) (Ext.drew1 (Below.refl _ _))) o2)) h
theorem keep3 {W1 : World} {o1 o2 : Obj} {B o : Nat} {v : Value} (h : W1.cell? ⟨B, o, none⟩ = some v) : ((W1.alloc o1).alloc o2).drew.drew.drew.cell? ⟨B, o, none⟩ = some v :=
  Ext.cell (Ext.trans' (Ext.trans' (Ext.drew1 (Ext.alloc (Ext.alloc (Below.refl _ W1) o1) o2)) (Ext.drew1 (Below.refl _ _))) (Ext.drew1 (Below.refl _ _))) h
theorem tmod_nat (a b : Nat) : (((a : Nat) : Int)).tmod (b : Int) = ((a % b : Nat) : Int) := rfl
def ldF : Op := Op.load 3 (Operand.tmp 27)
theorem vbs_app (A C : List EvX) : vbs (A ++ C) = vbs A ++ vbs C := List.filterMap_append
theorem vbs_cons (y : EvX) (C : List EvX) : vbs (y :: C) = y.u.ownBlock.toList ++ vbs C := by
  unfold vbs
  rw [List.filterMap_cons]
  cases y.u.ownBlock <;> rfl
theorem vbs_set (R : List EvX) (i : Nat) (z : EvX) (hi : i < R.length) : vbs (R.set i z) = vbs (R.take i) ++ z.u.ownBlock.toList ++ vbs (R.drop (i + 1)) := by
  rw [List.set_eq_take_append_cons_drop, if_pos hi, vbs_app, vbs_cons, List.append_assoc]
theorem vbs_at (R : List EvX) (i : Nat) (hi : i < R.length) : vbs R = vbs (R.take i) ++ R[i].u.ownBlock.toList ++ vbs (R.drop (i + 1)) := by
  conv => lhs; rw [show R = R.take i ++ R[i] :: R.drop (i + 1) by rw [List.getElem_cons_drop, List.take_append_drop]]
  rw [vbs_app, vbs_cons, List.append_assoc]
/-- What take returns. -/
def TkPost (base : Nat) (x : WtX) (w : World) (e : Ending) (w' : World) : Prop :=
  ∃ v : EvX, e = .returned (.agg #[.int .i64 v.k, .string v.s, v.u, .int .u64 v.b, .int .u64 v.d, .int .u64 v.t]) ∧ v.In ∧ OwnB base w' v.u v.l ∧ ∃ x' : WtX, x'.B = x.B ∧ x'.pre = x.pre ∧ x'.kv = x.kv ∧ x'.ks = x.ks ∧ x'.room = x.room ∧ x'.old = x.old ∧ x'.lost = x.lost ∧ x'.m + 1 = x.m ∧ x'.R.length = x.R.length ∧ x.wait = v.core :: x'.wait ∧ WOk base w' x' ∧ Mut (fun j => j ∈ x.fp) w w' ∧ (∀ b ∈ x'.fp, b ∈ x.fp) ∧ ∀ g, v.u.ownBlock = some g → g ∈ x.fp ∧ g ∉ x'.fp
theorem Mut.comp {X Y : Nat → Prop} {a b c : World} (h : Mut X a b) (k : Mut Y b c) (hY : ∀ j, Y j → X j ∨ a.heap.size ≤ j) : Mut X a c :=
  ⟨Nat.le_trans h.size k.size, fun j hj hx => (k.other j (Nat.lt_of_lt_of_le hj h.size) (fun hy => by
    rcases hY j hy with h1 | h1
    · exact hx h1
    · omega)).trans (h.other j hj hx), fun w0 h0 h1 => k.ext w0 (h.ext w0 h0 h1) (fun x hx => by
    rcases hY x hx with h2 | h2
    · exact h1 x h2
    · exact Nat.le_trans h0.size h2)⟩
theorem Mut.extR {X : Nat → Prop} {a b c : World} (h : Mut X a b) (k : Ext b c) : Mut X a c := h.trans (Mut.of_ext k)
theorem Mut.extL {X : Nat → Prop} {a b c : World} (k : Ext a b) (h : Mut X b c) : Mut X a c := (Mut.of_ext k).trans h
theorem zX_in : zX.In := ⟨by decide, by decide, by decide, by decide, by decide⟩
theorem zX_own (base : Nat) (w : World) : OwnB base w zX.u zX.l := World.ownsRow_nil _ _ _ _
theorem take_fin {base : Nat} {w w1 w2 w3 wf : World} {x : WtX} {g c f2 : Nat} (H : WOk base w x) (hf : x.f < x.R.length) (hm : 0 < x.m) (hv : x.rv = .slice (some ⟨g, 0, none⟩) x.R.length c) (hgB : g ≠ x.B)
    (hrow : w1.ownsRow base 30 6 x.rv x.R.length (xs (x.R.set x.f zX))) (h1 : Mut (fun j => j = g) w w1) (h2 : Mut (fun j => j = x.B) w1 w2) (h3 : Mut (fun j => j = x.B) w2 w3)
    (hd3 : w3.heap[x.B]? = some (.cells #[.string x.pre, x.kv, .int .i64 (x.room : Nat), .bool x.old, x.rv, .int .i64 (f2 : Nat), .int .i64 (x.m - 1 : Nat), .int .i64 (x.lost : Nat)] 76 (0, 0))) (hfin : Ext w3 wf) (hf2 : f2 = (x.f + 1) % x.R.length) :
    OwnB base wf (x.R.getD x.f zX).u (x.R.getD x.f zX).l ∧ (∀ b, (x.R.getD x.f zX).u.ownBlock = some b → b ∈ x.fp ∧ b ∉ ({ x with R := x.R.set x.f zX, f := f2, m := x.m - 1 } : WtX).fp) ∧
    WOk base wf { x with R := x.R.set x.f zX, f := f2, m := x.m - 1 } ∧ Mut (fun j => j ∈ x.fp) w wf ∧ ∀ b ∈ ({ x with R := x.R.set x.f zX, f := f2, m := x.m - 1 } : WtX).fp, b ∈ x.fp := by
  have hy : x.R.getD x.f zX = x.R[x.f] := by rw [List.getD_eq_getElem?_getD, List.getElem?_eq_getElem hf]; rfl
  rw [hy]
  have hgfp : g ∈ x.fp := fp_mem.2 (Or.inr (Or.inl (by rw [hv]; rfl)))
  have hBfp : x.B ∈ x.fp := fp_mem.2 (Or.inl rfl)
  have hM : Mut (fun j => j ∈ x.fp) w wf := (((h1.mono (Y := fun j => j ∈ x.fp) (fun j e => by rw [e]; exact hgfp)).trans ((h2.trans h3).mono (Y := fun j => j ∈ x.fp) (fun j e => by rw [e]; exact hBfp)))).extR hfin
  have hM' : ∀ j, j < w.heap.size → j ≠ g → j ≠ x.B → wf.heap[j]? = w.heap[j]? := fun j hj n1 n2 => by
    have e1 := h1.other j hj n1
    have e2 := h2.other j (Nat.lt_of_lt_of_le hj h1.size) n2
    have e3 := h3.other j (Nat.lt_of_lt_of_le hj (Nat.le_trans h1.size h2.size)) n2
    have e4 := hfin.block j (Nat.lt_of_lt_of_le hj (Nat.le_trans h1.size (Nat.le_trans h2.size h3.size)))
    exact e4.trans (e3.trans (e2.trans e1))
  have hnd := H.nd
  have hfpe : x.fp = x.B :: g :: vbs x.R := by unfold WtX.fp; rw [hv]; rfl
  rw [hfpe, List.nodup_cons, List.nodup_cons] at hnd
  obtain ⟨n1, n2, n3⟩ := hnd
  have hvb : ∀ s ∈ x.R, OwnB base wf s.u s.l := fun s hs => ownsRow_of (H.own s hs).2 (fun b hb => by
    have hm9 : b ∈ vbs x.R := vbs_mem.2 ⟨s, hs, hb⟩
    have := (H.types (fp_mem.2 (Or.inr (Or.inr ⟨s, hs, hb⟩)))).2.1
    exact hM' b this (fun e => n2 (e ▸ hm9)) (fun e => n1 (e ▸ List.mem_cons_of_mem _ hm9)))
  have hsub : (vbs (x.R.set x.f zX)).Sublist (vbs x.R) := by
    rw [vbs_set x.R x.f zX hf, vbs_at x.R x.f hf]
    exact ((List.Sublist.refl _).append (List.nil_sublist _)).append (List.Sublist.refl _)
  have hfpn : ({ x with R := x.R.set x.f zX, f := f2, m := x.m - 1 } : WtX).fp = x.B :: g :: vbs (x.R.set x.f zX) := by unfold WtX.fp; simp only; rw [hv]; rfl
  have hk : Keep tH w wf := Keep.of_mut hM fun j hj => (H.types hj).2.2
  have hgl : g < w1.heap.size := Nat.lt_of_lt_of_le (H.types hgfp).2.1 h1.size
  refine ⟨hvb _ (List.getElem_mem hf), fun b hb => ?_, ⟨?_, H.low, ?_, fun s hs => ?_, ownsRow_of H.kin (H.keep hk), H.kle, H.room1, H.room2, ?_, ?_, Or.inl ?_, ?_⟩, hM, fun b hb => ?_⟩
  · have hin : b ∈ vbs x.R := vbs_mem.2 ⟨_, List.getElem_mem hf, hb⟩
    refine ⟨by rw [hfpe]; exact List.mem_cons_of_mem _ (List.mem_cons_of_mem _ hin), fun hx => ?_⟩
    rw [hfpn] at hx
    rcases List.mem_cons.1 hx with rfl | hx
    · exact n1 (List.mem_cons_of_mem _ hin)
    · rcases List.mem_cons.1 hx with rfl | hx
      · exact n2 hin
      · rw [vbs_at x.R x.f hf, hb] at n3
        rw [vbs_set x.R x.f zX hf] at hx
        rw [List.nodup_append] at n3
        obtain ⟨a1, a2, a3⟩ := n3
        rw [List.nodup_append] at a1
        have hx' : b ∈ vbs (x.R.take x.f) ++ ([] : List Nat) ++ vbs (x.R.drop (x.f + 1)) := hx
        rw [List.append_nil] at hx'
        rcases List.mem_append.1 hx' with hx | hx
        · exact a1.2.2 b hx b (by simp) rfl
        · exact a3 b (by simp) b hx rfl
  · exact Ext.blk hfin hd3
  · show wf.ownsRow base 30 6 x.rv (x.R.set x.f zX).length (xs (x.R.set x.f zX))
    rw [List.length_set]
    refine ownsRow_of hrow (fun b hb => ?_)
    rw [hv] at hb
    simp only [Value.ownBlock, Option.some.injEq] at hb
    subst hb
    exact ((hfin.block g (Nat.lt_of_lt_of_le hgl (Nat.le_trans h2.size h3.size))).trans (h3.other g (Nat.lt_of_lt_of_le hgl h2.size) hgB)).trans (h2.other g hgl hgB)
  · rcases List.mem_or_eq_of_mem_set hs with hs | rfl
    · exact ⟨(H.own s hs).1, hvb s hs⟩
    · exact ⟨zX_in, zX_own _ _⟩
  · show (x.R.set x.f zX).length ≤ x.room
    rw [List.length_set]; exact H.fit
  · show x.m - 1 ≤ (x.R.set x.f zX).length
    rw [List.length_set]; have := H.mle; omega
  · show f2 < (x.R.set x.f zX).length
    rw [List.length_set, hf2]; exact Nat.mod_lt _ (by omega)
  · rw [hfpn]
    refine List.nodup_cons.2 ⟨fun h => n1 ?_, List.nodup_cons.2 ⟨fun h => n2 (hsub.subset h), n3.sublist hsub⟩⟩
    rcases List.mem_cons.1 h with rfl | h
    · exact List.mem_cons_self
    · exact List.mem_cons_of_mem _ (hsub.subset h)
  · rw [hfpn] at hb
    rw [hfpe]
    rcases List.mem_cons.1 hb with rfl | hb
    · exact List.mem_cons_self
    · rcases List.mem_cons.1 hb with rfl | hb
      · exact List.mem_cons_of_mem _ List.mem_cons_self
      · exact List.mem_cons_of_mem _ (List.mem_cons_of_mem _ (hsub.subset hb))
set_option maxRecDepth 100000 in
set_option maxHeartbeats 4000000 in
theorem take_any (base : Nat) (x : WtX) (w : World) (h : WOk base w x) (hm : 0 < x.m) :
    Calls Try.prog 40 #[.pointer (some ⟨x.B, 0, none⟩)] w (TkPost base x w) := by
  have hf : x.f < x.R.length := by
    rcases h.fl with h1 | ⟨h1, _⟩
    · exact h1
    · have := h.mle; rw [h1] at this; simp at this; omega
  obtain ⟨g, c, hv, hgb, hglt, hgf, hrow, hmut⟩ := row_put h.row x.f hf zX
  rw [show xC zX = [.int .i64 0, .string ⟨#[]⟩, .slice none 0 0, .int .u64 0, .int .u64 0, .int .u64 0] from rfl, setCells6] at hrow hmut
  obtain ⟨m0, m1, m2, m3, m4, m5, m6, m7⟩ := blk8 h.hd
  obtain ⟨r0, r1, r2, r3, r4, r5⟩ := row_cells h.row x.f hf g c hv
  obtain ⟨ua, uc, hu⟩ := (h.own x.R[x.f] (List.getElem_mem hf)).2.shape
  have hBlt := blk_lt h.hd
  have hBg : x.B ≠ g := fun e => by
    have h1 := h.hd
    obtain ⟨cs, h2⟩ := row_block h.row g (by rw [hv]; rfl)
    rw [e, h2] at h1
    simp only [Option.some.injEq, Obj.cells.injEq] at h1
    exact absurd h1.2.1 (by decide)
  have H := Box.mk h
  obtain ⟨Post, hPost⟩ : ∃ P, P = TkPost base x w := ⟨_, rfl⟩
  rw [← hPost]
  have HP := Box.mk hPost
  have HM := Box.mk hm
  rw [hv] at m4
  rw [hu] at r2
  clear hPost h hm
  have k0 : (0 : Int) ≤ (x.f : Int) := by omega
  have k1 : (x.f : Int) < (x.R.length : Int) := by omega
  have hfz1 : w.frozen? ⟨x.B, 5, none⟩ = false := Lib.frozen_of_heap H.out.hd 5
  have hfz2 : w.frozen? ⟨x.B, 6, none⟩ = false := Lib.frozen_of_heap H.out.hd 6
  go_enter Try.func40, Try.ntmps40
  have hy := Box.mk (show x.R[x.f] ∈ x.R from List.getElem_mem hf)
  have hyg : Box (x.R.getD x.f zX = x.R[x.f]) := ⟨by rw [List.getD_eq_getElem?_getD, List.getElem?_eq_getElem hf]; rfl⟩
  replace hu := Box.mk hu
  generalize x.R[x.f] = y at *
  go_upto_region 1 with (fail)
  have hne0 : x.B ≠ w.heap.size := by omega
  have hgB : g ≠ x.B := fun e => hBg e.symm
  have hne1 : g ≠ w.heap.size := by omega
  go_region_held3 (fun w' => (w'.cell? ⟨x.B, 4, none⟩ = some (.slice (some ⟨g, 0, none⟩) x.R.length c) ∧ w'.cell? ⟨x.B, 5, none⟩ = some (.int .i64 (x.f : Nat))) ∧ (w'.cell? ⟨g, x.f * 6, none⟩ = some (.int .i64 y.k) ∧ w'.cell? ⟨g, x.f * 6 + 1, none⟩ = some (.string y.s) ∧ w'.cell? ⟨g, x.f * 6 + 2, none⟩ = some (.slice ua y.l.length uc) ∧ w'.cell? ⟨g, x.f * 6 + 3, none⟩ = some (.int .u64 y.b) ∧ w'.cell? ⟨g, x.f * 6 + 4, none⟩ = some (.int .u64 y.d) ∧ w'.cell? ⟨g, x.f * 6 + 5, none⟩ = some (.int .u64 y.t)))
    (go_keep)
    (fail)
  go_upto_region 2 with (fail)
  have hd1 : ((((((w.setCell ⟨g, x.f * 6, none⟩ (.int .i64 0)).setCell ⟨g, x.f * 6 + 1, none⟩ (.string ⟨#[]⟩)).setCell ⟨g, x.f * 6 + 2, none⟩ (.slice none 0 0)).setCell ⟨g, x.f * 6 + 3, none⟩ (.int .u64 0)).setCell ⟨g, x.f * 6 + 4, none⟩ (.int .u64 0)).setCell ⟨g, x.f * 6 + 5, none⟩ (.int .u64 0)).heap[x.B]? = some (.cells (wtC x) 76 (0, 0)) := (hmut.other x.B hBlt hBg).trans H.out.hd
  have hc4 : Box (((((((w.setCell ⟨g, x.f * 6, none⟩ (.int .i64 0)).setCell ⟨g, x.f * 6 + 1, none⟩ (.string ⟨#[]⟩)).setCell ⟨g, x.f * 6 + 2, none⟩ (.slice none 0 0)).setCell ⟨g, x.f * 6 + 3, none⟩ (.int .u64 0)).setCell ⟨g, x.f * 6 + 4, none⟩ (.int .u64 0)).setCell ⟨g, x.f * 6 + 5, none⟩ (.int .u64 0)).cell? ⟨x.B, 4, none⟩ = some (.slice (some ⟨g, 0, none⟩) x.R.length c)) := ⟨by rw [Lib.cell_of_heap hd1, ← hv]; rfl⟩
  have hc5 : Box (((((((w.setCell ⟨g, x.f * 6, none⟩ (.int .i64 0)).setCell ⟨g, x.f * 6 + 1, none⟩ (.string ⟨#[]⟩)).setCell ⟨g, x.f * 6 + 2, none⟩ (.slice none 0 0)).setCell ⟨g, x.f * 6 + 3, none⟩ (.int .u64 0)).setCell ⟨g, x.f * 6 + 4, none⟩ (.int .u64 0)).setCell ⟨g, x.f * 6 + 5, none⟩ (.int .u64 0)).cell? ⟨x.B, 5, none⟩ = some (.int .i64 (x.f : Nat))) := ⟨by rw [Lib.cell_of_heap hd1]; rfl⟩
  go_region_held3 (fun w' => (w'.cell? ⟨x.B, 4, none⟩ = some (.slice (some ⟨g, 0, none⟩) x.R.length c) ∧ w'.cell? ⟨x.B, 5, none⟩ = some (.int .i64 (x.f : Nat))))
    (first
      | (with_reducible exact ⟨keep2 hc4.out, keep2 hc5.out⟩)
      | (with_reducible exact ⟨keep1 m4, keep1 m5⟩)
      | go_keep)
    (fail)
  have hsz1 : ((((((w.setCell ⟨g, x.f * 6, none⟩ (.int .i64 0)).setCell ⟨g, x.f * 6 + 1, none⟩ (.string ⟨#[]⟩)).setCell ⟨g, x.f * 6 + 2, none⟩ (.slice none 0 0)).setCell ⟨g, x.f * 6 + 3, none⟩ (.int .u64 0)).setCell ⟨g, x.f * 6 + 4, none⟩ (.int .u64 0)).setCell ⟨g, x.f * 6 + 5, none⟩ (.int .u64 0)).heap.size = w.heap.size := by simp
  replace hmut := Box.mk hmut
  replace hrow := Box.mk hrow
  generalize ((((((w.setCell ⟨g, x.f * 6, none⟩ (.int .i64 0)).setCell ⟨g, x.f * 6 + 1, none⟩ (.string ⟨#[]⟩)).setCell ⟨g, x.f * 6 + 2, none⟩ (.slice none 0 0)).setCell ⟨g, x.f * 6 + 3, none⟩ (.int .u64 0)).setCell ⟨g, x.f * 6 + 4, none⟩ (.int .u64 0)).setCell ⟨g, x.f * 6 + 5, none⟩ (.int .u64 0)) = w1 at *
  clear m0 m1 m2 m3 m4 m5 m6 m7 r0 r1 r2 r3 r4 r5 hfz1 hfz2 hne0 hne1
  obtain ⟨m0, m1, m2, m3, m4, m5, m6, m7⟩ := blk8 hd1
  have hfz1 : w1.frozen? ⟨x.B, 5, none⟩ = false := Lib.frozen_of_heap hd1 5
  have hfz2 : w1.frozen? ⟨x.B, 6, none⟩ = false := Lib.frozen_of_heap hd1 6
  rw [hv] at m4
  have hB1 : x.B < w1.heap.size := blk_lt hd1
  obtain ⟨f2, hf2⟩ : ∃ f2, f2 = (x.f + 1) % x.R.length := ⟨_, rfl⟩
  have hl1 : x.R.length ≤ 1000 := Nat.le_trans H.out.fit H.out.room2
  have q0 : ¬ x.R.length = 0 := by omega
  have q1 : (((x.f : Nat) : Int) + 1).tmod (x.R.length : Int) = ((f2 : Nat) : Int) := by rw [hf2]; exact tmod_nat (x.f + 1) x.R.length
  have q2 : IntKind.i64.wrap (((x.f : Nat) : Int) + 1) = ((x.f : Nat) : Int) + 1 := by rw [IntKind.wrap_i64]; omega
  have q4 : IntKind.i64.wrap ((f2 : Nat) : Int) = ((f2 : Nat) : Int) := by
    have : f2 < x.R.length := by rw [hf2]; exact Nat.mod_lt _ (by omega)
    rw [IntKind.wrap_i64]; omega
  replace hf2 := Box.mk hf2
  have hd2 : (w1.setCell ⟨x.B, 5, none⟩ (.int .i64 (f2 : Nat))).heap[x.B]? = some (.cells #[.string x.pre, x.kv, .int .i64 (x.room : Nat), .bool x.old, x.rv, .int .i64 (f2 : Nat), .int .i64 (x.m : Nat), .int .i64 (x.lost : Nat)] 76 (0, 0)) := heap_setCell_same w1 x.B 5 _ _ _ hd1
  have m4s : Box ((w1.setCell ⟨x.B, 5, none⟩ (.int .i64 (f2 : Nat))).cell? ⟨x.B, 4, none⟩ = some (.slice (some ⟨g, 0, none⟩) x.R.length c)) := ⟨by rw [← hv]; exact (blk8 hd2).2.2.2.2.1⟩
  have hs2 : (w1.setCell ⟨x.B, 5, none⟩ (.int .i64 (f2 : Nat))).heap.size = w.heap.size := by rw [← hsz1]; simp
  have hM2 := Box.mk (Mut.put w1 ⟨x.B, 5, none⟩ (.int .i64 (f2 : Nat)) (X := fun j => j = x.B) rfl)
  replace hd2 := Box.mk hd2
  go_upto_region 3 with (fail)
  rw [show Op.load 3 (Operand.tmp 27) = ldF from rfl]
  have hop : ldF = Op.load 3 (Operand.tmp 27) := rfl
  go_region_held3 (fun w' => w'.cell? ⟨x.B, 4, none⟩ = some (.slice (some ⟨g, 0, none⟩) x.R.length c))
    (first
      | (with_reducible exact keep3 m4)
      | (with_reducible exact keep3 m4s.out)
      | go_keep)
    (fail)
  clear hop
  generalize w1.setCell ⟨x.B, 5, none⟩ (.int .i64 (f2 : Nat)) = w2 at *
  clear m0 m1 m2 m3 m4 m5 m6 m7 hfz1 hfz2 q1 q2 q4 m4s
  obtain ⟨m0, m1, m2, m3, m4, m5, m6, m7⟩ := blk8 hd2.out
  have hfz2 : w2.frozen? ⟨x.B, 6, none⟩ = false := Lib.frozen_of_heap hd2.out 6
  have hB2 : x.B < w2.heap.size := blk_lt hd2.out
  have q5 : IntKind.i64.wrap (((x.m : Nat) : Int) - 1) = ((x.m - 1 : Nat) : Int) := by
    have := H.out.mle; have := HM.out
    rw [IntKind.wrap_i64]; omega
  have hd3 : (w2.setCell ⟨x.B, 6, none⟩ (.int .i64 (x.m - 1 : Nat))).heap[x.B]? = some (.cells #[.string x.pre, x.kv, .int .i64 (x.room : Nat), .bool x.old, x.rv, .int .i64 (f2 : Nat), .int .i64 (x.m - 1 : Nat), .int .i64 (x.lost : Nat)] 76 (0, 0)) := heap_setCell_same w2 x.B 6 _ _ _ hd2.out
  have hs3 : (w2.setCell ⟨x.B, 6, none⟩ (.int .i64 (x.m - 1 : Nat))).heap.size = w.heap.size := by rw [← hs2]; simp
  have hM3 := Box.mk (Mut.put w2 ⟨x.B, 6, none⟩ (.int .i64 (x.m - 1 : Nat)) (X := fun j => j = x.B) rfl)
  replace hd3 := Box.mk hd3
  go_upto_region 5 with (fail)
  generalize w2.setCell ⟨x.B, 6, none⟩ (.int .i64 (x.m - 1 : Nat)) = w3 at *
  clear hs2
  have hfin : Ext w3 ((((w3.alloc (.cells #[.int .i64 y.k, .string y.s, .slice ua y.l.length uc, .int .u64 y.b, .int .u64 y.d, .int .u64 y.t] 30)).alloc (.cells #[.int .i64 y.k, .string y.s, .slice ua y.l.length uc, .int .u64 y.b, .int .u64 y.d, .int .u64 y.t] 30)).drew.drew).drew) := Ext.trans' (Ext.trans' (Ext.drew1 (Ext.alloc (Ext.alloc (Below.refl _ w3) _) _)) (Ext.drew1 (Below.refl _ _))) (Ext.drew1 (Below.refl _ _))
  replace hfin := Box.mk hfin
  go_wp2
  rw [HP.out]
  obtain ⟨t1, t2, t3⟩ := take_fin H.out hf HM.out hv hgB hrow.out hmut.out hM2.out hM3.out hd3.out hfin.out hf2.out
  rw [hyg.out] at t1 t2
  refine bodyPost_ret (v := (.agg #[.int .i64 y.k, .string y.s, .slice ua y.l.length uc, .int .u64 y.b, .int .u64 y.d, .int .u64 y.t])) ?_ rfl ⟨y, by rw [hu.out], (H.out.own y hy.out).1, t1, { x with R := x.R.set x.f zX, f := f2, m := x.m - 1 }, rfl, rfl, rfl, rfl, rfl, rfl, rfl, by have := HM.out; show x.m - 1 + 1 = x.m; omega, List.length_set, ?_, t3.1, t3.2.1, t3.2.2, t2⟩
  · simp [results, Try.results40, go_sem, hs3]
  · have h9 := ringW_take x.R zX zX x.f x.m HM.out H.out.mle hf
    rw [hyg.out] at h9
    show List.map EvX.core (ringW x.R zX x.f x.m) = _
    rw [h9, hf2.out]
    rfl
end Go.Proofs.Ytnblbneehogadaa
