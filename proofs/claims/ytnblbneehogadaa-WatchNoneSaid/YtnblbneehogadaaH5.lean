import Derived.Test.YtnblbneehogadaaH5F
/- Contract: a watcher's put. -/
namespace Go.Proofs.Ytnblbneehogadaa
open Go.RowKit

/-- What put returns. -/
def PtPost (base : Nat) (x : WtX) (v : CoreT) (w : World) (e : Ending) (w' : World) : Prop :=
  e = .returned (.bool (x.md.st.took x.room x.old)) ∧ ∃ x' : WtX, x'.B = x.B ∧ x'.md = x.md.put v ∧ x'.kv = x.kv ∧ WOk base w' x' ∧ Mut (fun j => j ∈ x.fp) w w' ∧ ∀ b ∈ x'.fp, b ∈ x.fp ∨ w.heap.size ≤ b
theorem keepN {W1 : World} {o1 : Obj} {B o : Nat} {v : Value} (h : W1.cell? ⟨B, o, none⟩ = some v) : (W1.alloc o1).drew.cell? ⟨B, o, none⟩ = some v := Ext.cell (Ext.drew1 (Ext.alloc (Below.refl _ W1) o1)) h
theorem keep6 {W1 : World} {g i B o : Nat} {v v0 v1 v2 v3 v4 v5 : Value} (hne : g ≠ B) (h : W1.cell? ⟨B, o, none⟩ = some v) : ((((((W1.setCell ⟨g, i, none⟩ v0).setCell ⟨g, i + 1, none⟩ v1).setCell ⟨g, i + 2, none⟩ v2).setCell ⟨g, i + 3, none⟩ v3).setCell ⟨g, i + 4, none⟩ v4).setCell ⟨g, i + 5, none⟩ v5).cell? ⟨B, o, none⟩ = some v := by
  rw [World.cell?_setCell_far _ ⟨g, i + 5, none⟩ ⟨B, o, none⟩ _ hne, World.cell?_setCell_far _ ⟨g, i + 4, none⟩ ⟨B, o, none⟩ _ hne, World.cell?_setCell_far _ ⟨g, i + 3, none⟩ ⟨B, o, none⟩ _ hne, World.cell?_setCell_far _ ⟨g, i + 2, none⟩ ⟨B, o, none⟩ _ hne, World.cell?_setCell_far _ ⟨g, i + 1, none⟩ ⟨B, o, none⟩ _ hne, World.cell?_setCell_far _ ⟨g, i, none⟩ ⟨B, o, none⟩ _ hne]
  exact h
theorem wait_len (x : WtX) : x.wait.length = x.m := by unfold WtX.wait; rw [List.length_map, ringW_len]
theorem core_took {base : Nat} {w : World} {x : WtX} (h : WOk base w x) : x.md.st.took x.room x.old = (decide (x.m ≠ x.room) || x.old) := by
  have h1 := h.mle; have h2 := h.fit
  show (decide (x.wait.length < x.room) || x.old) = _
  rw [wait_len, decide_eq_decide.2 (show x.m < x.room ↔ x.m ≠ x.room by omega)]
theorem md_room {base : Nat} {w : World} {x x2 : WtX} (h : WOk base w x) (hm : x.m ≠ x.room) (v : CoreT) {x' : WtX} (e1 : x'.pre = x.pre) (e2 : x'.ks = x.ks) (e3 : x'.room = x.room) (e4 : x'.old = x.old) (e5 : x'.lost = x.lost) (e6 : x'.wait = x.wait ++ [v]) : x'.md = x.md.put v := by
  have h1 := h.mle; have h2 := h.fit
  unfold WtX.md WMd.put WtB.put
  simp only
  rw [if_neg (by rw [wait_len]; omega), e1, e2, e3, e4, e5, e6]
theorem md_full {x : WtX} (hm : x.m = x.room) (v : CoreT) {x' : WtX} {a : CoreT} {r : List CoreT} (e0 : x.wait = a :: r) (ho : x.old = true) (e1 : x'.pre = x.pre) (e2 : x'.ks = x.ks) (e3 : x'.room = x.room) (e4 : x'.old = x.old) (e5 : x'.lost = x.lost + 1) (e6 : x'.wait = r ++ [v]) : x'.md = x.md.put v := by
  unfold WtX.md WMd.put WtB.put
  simp only
  rw [if_pos (by rw [wait_len]; omega), if_pos ho, e1, e2, e3, e4, e5, e6, e0]
  rfl
theorem md_lost {x : WtX} (hm : x.m = x.room) (v : CoreT) (ho : x.old = false) : ({ x with lost := x.lost + 1 } : WtX).md = x.md.put v := by
  unfold WtX.md WMd.put WtB.put
  simp only
  rw [if_pos (by rw [wait_len]; omega), if_neg (by rw [ho]; decide)]
  rfl
theorem mod_fits {f m n : Nat} (hm : m < n) : (f + m) % n < n := Nat.mod_lt _ (by omega)
set_option maxRecDepth 100000 in
set_option maxHeartbeats 8000000 in
theorem put_any (base : Nat) (x : WtX) (k : Int) (s : ByteArray) (ua : Option Addr) (l : List UInt8) (uc b d t : Nat) (w : World) (h : WOk base w x) (hb : base ≤ w.heap.size) (hin : EvX.In ⟨k, s, .slice ua l.length uc, l, b, d, t⟩) (hby : ∀ w', Mut (fun j => j ∈ x.fp) w w' → By w' (.slice ua l.length uc) l) (hlost : x.lost < 4611686018427387904) :
    Calls Try.prog 36 #[.pointer (some ⟨x.B, 0, none⟩), (.agg #[.int .i64 (k), .string s, .slice ua (l.length) uc, .int .u64 (b), .int .u64 (d), .int .u64 (t)])] w (PtPost base x (k, s, l, b, d, t) w) := by
  have H := Box.mk h
  have HY := Box.mk hby
  have HI := Box.mk hin
  obtain ⟨m0, m1, m2, m3, m4, m5, m6, m7⟩ := blk8 h.hd
  obtain ⟨ra, rc, hv⟩ := row_shape h.row
  have hBlt := blk_lt h.hd
  have hBn : x.B ≠ w.heap.size := by omega
  have htook := Box.mk (core_took h)
  have hrm := h.room2; have hml := h.mle; have hft := h.fit; have hr1 := h.room1
  have hltF : Box (∀ b ∈ x.fp, b < w.heap.size) := ⟨fun b hb => (h.types hb).2.1⟩
  obtain ⟨Post, hPost⟩ : ∃ P, P = PtPost base x (k, s, l, b, d, t) w := ⟨_, rfl⟩
  rw [← hPost]
  have HP := Box.mk hPost
  clear hPost h hby hin
  by_cases hfull : x.m = x.room
  · have e1 : ((x.m : Int) == (x.room : Int)) = true := by rw [beq_iff_eq]; omega
    have e2 : (x.m == x.room) = true := by rw [beq_iff_eq]; exact hfull
    have q1 : IntKind.i64.wrap ((x.lost : Int) + 1) = (x.lost : Int) + 1 := by rw [IntKind.wrap_i64]; omega
    have hz7 : w.frozen? ⟨x.B, 7, none⟩ = false := Lib.frozen_of_heap H.out.hd 7
    have hRl : x.R.length = x.room := by omega
    have hpos : 0 < x.m := by omega
    replace hfull := Box.mk hfull
    replace hRl := Box.mk hRl
    have hd1 : (w.setCell ⟨x.B, 7, none⟩ (.int .i64 ((x.lost : Int) + 1))).heap[x.B]? = some (.cells (wtC { x with lost := x.lost + 1 }) 76 (0, 0)) := heap_setCell_same w x.B 7 _ _ _ H.out.hd
    have hM1 : Mut (fun j => j = x.B) w (w.setCell ⟨x.B, 7, none⟩ (.int .i64 ((x.lost : Int) + 1))) := Mut.put w ⟨x.B, 7, none⟩ _ rfl
    have hs1 : (w.setCell ⟨x.B, 7, none⟩ (.int .i64 ((x.lost : Int) + 1))).heap.size = w.heap.size := by simp
    obtain ⟨K1, K2, K3⟩ := H.out.head (x' := { x with lost := x.lost + 1 }) hM1 hd1 rfl rfl rfl rfl rfl rfl rfl rfl
    replace K1 := Box.mk K1; replace K2 := Box.mk K2
    clear hd1 hM1
    go_enter Try.func36, Try.ntmps36
    go_upto_region 1 with (fail)
    go_region_held3 (fun w' => w'.cell? ⟨x.B, 6, none⟩ = some (.int .i64 (x.m : Nat)) ∧ w'.cell? ⟨x.B, 2, none⟩ = some (.int .i64 (x.room : Nat)))
      (first
        | (with_reducible exact ⟨keepN m6, keepN m2⟩)
        | go_keep)
      (fail)
    go_upto_region 3 with (fail)
    have hE3 : ((w.setCell ⟨x.B, 7, none⟩ (.int .i64 ((x.lost : Int) + 1))).alloc (.cells #[.int .i64 k, .string s, .slice ua l.length uc, .int .u64 b, .int .u64 d, .int .u64 t] 30)).drew.heap[w.heap.size]? = some (.cells #[.int .i64 k, .string s, .slice ua l.length uc, .int .u64 b, .int .u64 d, .int .u64 t] 30 (0, 0)) := by
      have h9 := newblk (w.setCell ⟨x.B, 7, none⟩ (.int .i64 ((x.lost : Int) + 1))) (.cells #[.int .i64 k, .string s, .slice ua l.length uc, .int .u64 b, .int .u64 d, .int .u64 t] 30)
      rw [hs1] at h9
      exact h9
    have hx3 : Ext (w.setCell ⟨x.B, 7, none⟩ (.int .i64 ((x.lost : Int) + 1))) ((w.setCell ⟨x.B, 7, none⟩ (.int .i64 ((x.lost : Int) + 1))).alloc (.cells #[.int .i64 k, .string s, .slice ua l.length uc, .int .u64 b, .int .u64 d, .int .u64 t] 30)).drew := Ext.drew1 (Ext.alloc (Below.refl _ _) _)
    have H3 := Box.mk (K1.out.ext hx3)
    have M3 := Box.mk (K2.out.extR hx3)
    replace hE3 := Box.mk hE3
    clear K1 K2 hs1 hx3 m0 m1 m2 m3 m4 m5 m6 m7 hz7 q1 e1 e2
    generalize ((w.setCell ⟨x.B, 7, none⟩ (.int .i64 ((x.lost : Int) + 1))).alloc (.cells #[.int .i64 k, .string s, .slice ua l.length uc, .int .u64 b, .int .u64 d, .int .u64 t] 30)).drew = w3 at *
    obtain ⟨N, hN⟩ : ∃ N, N = w.heap.size := ⟨_, rfl⟩
    rw [← hN] at hE3
    simp only [← hN]
    obtain ⟨m0, m1, m2, m3, m4, m5, m6, m7⟩ := blk8 H3.out.hd
    have hBlt3 := blk_lt H3.out.hd
    replace hN := Box.mk hN
    cases hold : x.old
    · rw [hold] at m3
      go_wp2
      rw [HP.out]

      exact ⟨ret_bool (by rw [htook.out, hold, hfull.out]; simp), { x with lost := x.lost + 1 }, rfl, md_lost hfull.out _ hold, rfl, H3.out, M3.out, fun b hb => Or.inl hb⟩
    · rw [hold] at m3
      have cT := Box.mk (take_any base { x with lost := x.lost + 1 } w3 H3.out hpos)
      unfold TkPost at cT
      go_upto_region 6 with (first
        | (go_at_call 40; (with_reducible refine (cT.out).mono ?_); rintro e w4 ⟨v9, rfl, _, _, x2, hB2, hpre2, hkv2, hks2, hroom2, hold2, hlost2, hmm2, hRl2, hwt2, H2, M4, hfp4, _⟩))
      have hfpx : ({ x with lost := x.lost + 1 } : WtX).fp = x.fp := K3
      rw [hfpx] at M4 hfp4
      have hNl : N ∉ x.fp := fun h => by have := hltF.out N h; have := hN.out; omega
      have hxq : Ext w4 w4.drew := Ext.drew1 (Below.refl _ _)
      have hEq : w4.drew.heap[N]? = some (.cells #[.int .i64 k, .string s, .slice ua l.length uc, .int .u64 b, .int .u64 d, .int .u64 t] 30 (0, 0)) := (M4.other N (blk_lt hE3.out) hNl).trans hE3.out
      have hMut := (M3.out.trans M4).extR hxq
      have hbyq := HY.out _ hMut
      have hNfp : Box (N ∉ x2.fp) := ⟨fun h => hNl (hfp4 _ h)⟩
      have hm2 : x2.m < x2.R.length := by
        have h1 : x2.R.length = x.R.length := hRl2
        have h2 : x2.m + 1 = x.m := hmm2
        have := hRl.out; have := hfull.out
        omega
      have hB2' : x2.B = x.B := hB2
      obtain ⟨rb, rd, hvr⟩ := row_shape H2.row
      have hd4 := H2.hd
      rw [hB2'] at hd4
      have g0 : ((x2.R.length : Int) < (x.room : Int)) = False := by
        have h1 : x2.R.length = x.R.length := hRl2
        have := hRl.out
        simp; omega
      have g1 : decide ((x2.R.length : Int) < (x.room : Int)) = false := by simp [g0]
      have g2 : x2.room = x.room := hroom2
      clear m0 m1 m2 m3 m4 m5 m6 m7
      obtain ⟨m0, m1, m2, m3, m4, m5, m6, m7⟩ := blk8 hd4
      rw [hvr] at m4
      rw [g2] at m2
      clear hd4 hvr hB2
      have hB2 := hB2'
      clear hB2'
      replace H2 := Box.mk (H2.ext hxq); replace hEq := Box.mk hEq; replace hMut := Box.mk hMut; replace hbyq := Box.mk hbyq; replace hfp4 := Box.mk hfp4
      replace hwt2 := Box.mk hwt2; replace hlost2 := Box.mk hlost2; replace hpre2 := Box.mk hpre2; replace hks2 := Box.mk hks2; replace hold2 := Box.mk hold2; replace hroom2 := Box.mk hroom2; replace hkv2 := Box.mk hkv2
      clear M4 hmm2 hRl2 H3 M3 hE3 cT hxq g2
      go_region_held3 (fun w' => w'.cell? ⟨x.B, 4, none⟩ = some (.slice rb x2.R.length rd) ∧ w'.cell? ⟨x.B, 2, none⟩ = some (.int .i64 (x.room : Nat)))
        (first
          | (with_reducible exact ⟨keepd m4, keepd m2⟩)
          | go_keep)
        (fail)
      clear m0 m1 m2 m3 m4 m5 m6 m7
      generalize w4.drew = wq at *
      obtain ⟨g, c, hv2, hgb, hglt, _⟩ := row_put H2.out.row ((x2.f + x2.m) % x2.R.length) (mod_fits hm2) zX
      obtain ⟨p, hp⟩ : ∃ p, p = (x2.f + x2.m) % x2.R.length := ⟨_, rfl⟩
      have hpl : p < x2.R.length := by rw [hp]; exact mod_fits hm2
      have hl2 : x2.R.length ≤ 1000 := Nat.le_trans H2.out.fit H2.out.room2
      have hf2 : x2.f < x2.R.length := by
        rcases H2.out.fl with h1 | ⟨h1, _⟩
        · exact h1
        · rw [h1] at hm2; simp at hm2
      have hBN : x.B ≠ N := by have := hN.out; omega
      have hgB : g ≠ x.B := fun e => by
        have h1 := H2.out.hd
        rw [hB2] at h1
        obtain ⟨cs, h2⟩ := row_block H2.out.row g (by rw [hv2]; rfl)
        rw [e, h1] at h2
        simp only [Option.some.injEq, Obj.cells.injEq] at h2
        exact absurd h2.2.1 (by decide)
      have hgN : g ≠ N := fun e => hNfp.out (e ▸ fp_mem.2 (Or.inr (Or.inl (by rw [hv2]; rfl))))
      have q0 : ¬ x2.R.length = 0 := by omega
      have q1 : IntKind.i64.wrap ((x2.f : Int) + (x2.m : Int)) = (x2.f : Int) + (x2.m : Int) := by rw [IntKind.wrap_i64]; omega
      have q2 : ((x2.f : Int) + (x2.m : Int)).tmod (x2.R.length : Int) = ((p : Nat) : Int) := by rw [hp]; exact tmod_nat (x2.f + x2.m) x2.R.length
      have q3 : IntKind.i64.wrap ((x2.m : Int) + 1) = (x2.m : Int) + 1 := by rw [IntKind.wrap_i64]; omega
      have o0 : (0 : Int) ≤ (p : Int) := Int.natCast_nonneg p
      have o1 : (p : Int) < (x2.R.length : Int) := Int.ofNat_lt.2 hpl
      have hd2 := H2.out.hd
      rw [hB2] at hd2
      obtain ⟨m0, m1, m2, m3, m4, m5, m6, m7⟩ := blk8 hd2
      rw [hv2] at m4
      obtain ⟨c0, c1, c2, c3, c4, c5⟩ := blk6 hEq.out
      have hcp : Box (Calls Try.prog 46 #[(.agg #[.int .i64 (k), .string s, .slice ua (l.length) uc, .int .u64 (b), .int .u64 (d), .int .u64 (t)])] wq.drew fun e w' => ∃ a' c', e = .returned (.agg #[.int .i64 (k), .string s, .slice a' (l.length) c', .int .u64 (b), .int .u64 (d), .int .u64 (t)]) ∧ OwnB wq.heap.size w' (.slice a' l.length c') l ∧ Ext wq w') := ⟨(copied_any k s ua l uc b d t wq.drew (hbyq.out.ext (Ext.drew1 (Below.refl _ _)))).mono (by
        rintro e w' ⟨a', c', h1, h2, h3⟩
        exact ⟨a', c', h1, h2, Ext.trans' (Ext.drew1 (Below.refl _ _)) h3⟩)⟩
      replace hp := Box.mk hp
      go_upto_region 8 with (fail)
      go_region_held3 (fun w' => (w'.cell? ⟨x.B, 4, none⟩ = some (.slice (some ⟨g, 0, none⟩) x2.R.length c) ∧ w'.cell? ⟨x.B, 5, none⟩ = some (.int .i64 (x2.f : Nat)) ∧ w'.cell? ⟨x.B, 6, none⟩ = some (.int .i64 (x2.m : Nat))) ∧ (w'.cell? ⟨N, 0, none⟩ = some (.int .i64 k) ∧ w'.cell? ⟨N, 1, none⟩ = some (.string s) ∧ w'.cell? ⟨N, 2, none⟩ = some (.slice ua l.length uc) ∧ w'.cell? ⟨N, 3, none⟩ = some (.int .u64 b) ∧ w'.cell? ⟨N, 4, none⟩ = some (.int .u64 d) ∧ w'.cell? ⟨N, 5, none⟩ = some (.int .u64 t)))
        (first
          | (with_reducible exact ⟨⟨keepd m4, keepd m5, keepd m6⟩, keepd c0, keepd c1, keepd c2, keepd c3, keepd c4, keepd c5⟩)
          | (with_reducible exact ⟨⟨n4, n5, n6⟩, d0, d1, d2, d3, d4, d5⟩)
          | (with_reducible exact ⟨⟨keep6 hgB n4, keep6 hgB n5, keep6 hgB n6⟩, keep6 hgN d0, keep6 hgN d1, keep6 hgN d2, keep6 hgN d3, keep6 hgN d4, keep6 hgN d5⟩))
        (first
          | (go_at_call 46; (with_reducible refine (hcp.out).mono ?_); rintro e w5 ⟨a9, c9, rfl, hO5, hx5⟩; obtain ⟨n0, n1, n2, n3, n4, n5, n6, n7⟩ := blk8 (Ext.blk hx5 hd2); rw [hv2] at n4; obtain ⟨d0, d1, d2, d3, d4, d5⟩ := blk6 (Ext.blk hx5 hEq.out); obtain ⟨g', c', hv', _, _, hgf, hrow', hmut'⟩ := row_put (ownsRow_ext hx5 H2.out.row) p hpl ⟨k, s, .slice a9 l.length c9, l, b, d, t⟩; rw [hv2] at hv'; simp only [Value.slice.injEq, Option.some.injEq, Addr.mk.injEq] at hv'; obtain ⟨⟨rfl, -, -⟩, -, -⟩ := hv'; obtain ⟨z0, z1, z2, z3, z4, z5⟩ := row_cells (ownsRow_ext hx5 H2.out.row) p hpl g c hv2; generalize x2.R[p] = ez at z0 z1 z2 z3 z4 z5; replace hrow' := Box.mk hrow'; replace hmut' := Box.mk hmut'; replace hO5 := Box.mk hO5; replace hx5 := Box.mk hx5))
      have hrow6 : Box (((((((w5.setCell ⟨g, p * 6, none⟩ (.int .i64 k)).setCell ⟨g, p * 6 + 1, none⟩ (.string s)).setCell ⟨g, p * 6 + 2, none⟩ (.slice a9 l.length c9)).setCell ⟨g, p * 6 + 3, none⟩ (.int .u64 b)).setCell ⟨g, p * 6 + 4, none⟩ (.int .u64 d)).setCell ⟨g, p * 6 + 5, none⟩ (.int .u64 t)).ownsRow base 30 6 x2.rv x2.R.length (xs (x2.R.set p ⟨k, s, .slice a9 l.length c9, l, b, d, t⟩))) := ⟨hrow'.out⟩
      have hmut6 : Box (Mut (fun j => j = g) w5 ((((((w5.setCell ⟨g, p * 6, none⟩ (.int .i64 k)).setCell ⟨g, p * 6 + 1, none⟩ (.string s)).setCell ⟨g, p * 6 + 2, none⟩ (.slice a9 l.length c9)).setCell ⟨g, p * 6 + 3, none⟩ (.int .u64 b)).setCell ⟨g, p * 6 + 4, none⟩ (.int .u64 d)).setCell ⟨g, p * 6 + 5, none⟩ (.int .u64 t))) := ⟨hmut'.out⟩
      clear hrow' hmut' n0 n1 n2 n3 n4 n5 n6 n7 d0 d1 d2 d3 d4 d5 z0 z1 z2 z3 z4 z5 hgf m0 m1 m2 m3 m4 m5 m6 m7 c0 c1 c2 c3 c4 c5
      generalize ((((((w5.setCell ⟨g, p * 6, none⟩ (.int .i64 k)).setCell ⟨g, p * 6 + 1, none⟩ (.string s)).setCell ⟨g, p * 6 + 2, none⟩ (.slice a9 l.length c9)).setCell ⟨g, p * 6 + 3, none⟩ (.int .u64 b)).setCell ⟨g, p * 6 + 4, none⟩ (.int .u64 d)).setCell ⟨g, p * 6 + 5, none⟩ (.int .u64 t)) = w6 at *
      have hd6 := (hmut6.out.other x.B (Nat.lt_of_lt_of_le (blk_lt hd2) hx5.out.size) (fun e => hgB e.symm)).trans (Ext.blk hx5.out hd2)
      obtain ⟨m0, m1, m2, m3, m4, m5, m6, m7⟩ := blk8 hd6
      have hz6 : w6.frozen? ⟨x.B, 6, none⟩ = false := Lib.frozen_of_heap hd6 6
      have hM7 := Mut.put w6 ⟨x.B, 6, none⟩ (.int .i64 ((x2.m : Int) + 1)) (X := fun j => j = x2.B) hB2.symm
      have hd7 : (w6.setCell ⟨x.B, 6, none⟩ (.int .i64 ((x2.m : Int) + 1))).heap[x2.B]? = some (.cells #[.string x2.pre, x2.kv, .int .i64 (x2.room : Nat), .bool x2.old, x2.rv, .int .i64 (x2.f : Nat), .int .i64 ((x2.m + 1 : Nat) : Int), .int .i64 (x2.lost : Nat)] 76 (0, 0)) := by
        rw [hB2]; exact heap_setCell_same w6 x.B 6 _ _ _ hd6
      obtain ⟨f1, f2, f3, f4⟩ := put_fin (y := ⟨k, s, .slice a9 l.length c9, l, b, d, t⟩) H2.out hm2 hp.out hv2 hx5.out ⟨HI.out.s, HI.out.l, HI.out.b, HI.out.d, HI.out.t⟩ hO5.out (Nat.le_trans hb hMut.out.size) hrow6.out hmut6.out hM7 hd7
      replace f1 := Box.mk f1; replace f2 := Box.mk f2; replace f3 := Box.mk f3; replace f4 := Box.mk f4
      clear hM7 hd7 hd6 hd2 q1 q2
      go_wp2
      rw [HP.out]

      exact ⟨ret_bool (by rw [htook.out, hold]; simp), { x2 with R := x2.R.set p ⟨k, s, .slice a9 l.length c9, l, b, d, t⟩, m := x2.m + 1 }, hB2, md_full hfull.out _ hwt2.out hold hpre2.out hks2.out hroom2.out hold2.out hlost2.out f4.out, hkv2.out, f1.out, hMut.out.comp f2.out (fun j hj => Or.inl (hfp4.out j hj)), fun z hz => by
        rcases f3.out z hz with h | h
        · exact Or.inl (hfp4.out z h)
        · exact Or.inr (Nat.le_trans hMut.out.size h)⟩
  · have e1 : ((x.m : Int) == (x.room : Int)) = false := by rw [beq_eq_false_iff_ne]; omega
    have e2 : (x.m == x.room) = false := by rw [beq_eq_false_iff_ne]; exact hfull
    have hmr : x.m < x.room := by omega
    replace hfull := Box.mk hfull
    go_enter Try.func36, Try.ntmps36
    go_upto_region 1 with (fail)
    go_region_held3 (fun w' => w'.cell? ⟨x.B, 6, none⟩ = some (.int .i64 (x.m : Nat)) ∧ w'.cell? ⟨x.B, 2, none⟩ = some (.int .i64 (x.room : Nat)))
      (first
        | (with_reducible exact ⟨keepN m6, keepN m2⟩)
        | go_keep)
      (fail)
    go_upto_region 6 with (fail)
    have hx3 : Ext w (w.alloc (.cells #[.int .i64 k, .string s, .slice ua l.length uc, .int .u64 b, .int .u64 d, .int .u64 t] 30)).drew := Ext.drew1 (Ext.alloc (Below.refl _ _) _)
    have hE3 : (w.alloc (.cells #[.int .i64 k, .string s, .slice ua l.length uc, .int .u64 b, .int .u64 d, .int .u64 t] 30)).drew.heap[w.heap.size]? = some (.cells #[.int .i64 k, .string s, .slice ua l.length uc, .int .u64 b, .int .u64 d, .int .u64 t] 30 (0, 0)) := newblk w _
    replace hx3 := Box.mk hx3
    replace hE3 := Box.mk hE3
    clear m0 m1 m2 m3 m4 m5 m6 m7 e1 e2
    generalize (w.alloc (.cells #[.int .i64 k, .string s, .slice ua l.length uc, .int .u64 b, .int .u64 d, .int .u64 t] 30)).drew = w3 at *
    obtain ⟨N, hN⟩ : ∃ N, N = w.heap.size := ⟨_, rfl⟩
    rw [← hN] at hE3
    simp only [← hN]
    have hd3 := Ext.blk hx3.out H.out.hd
    obtain ⟨m0, m1, m2, m3, m4, m5, m6, m7⟩ := blk8 hd3
    rw [hv] at m4
    have hBlt3 := blk_lt hd3
    have hNl : Box (N ∉ x.fp) := ⟨fun h => by have := hltF.out N h; omega⟩
    replace hN := Box.mk hN
    clear hd3
    by_cases hg : x.R.length < x.room
    · have g0 : (x.R.length : Int) < (x.room : Int) := by omega
      have g1 : decide ((x.R.length : Int) < (x.room : Int)) = true := decide_eq_true g0
      have hxd : Ext w w3.drew := Ext.drew1 hx3.out
      have cG := Box.mk (grow_any base x w3.drew (H.out.ext hxd) hg (Nat.le_trans hb hxd.size))
      unfold GrPost at cG
      replace hxd := Box.mk hxd
      go_region_held3 (fun w' => w'.cell? ⟨x.B, 4, none⟩ = some (.slice ra x.R.length rc) ∧ w'.cell? ⟨x.B, 2, none⟩ = some (.int .i64 (x.room : Nat)))
        (first
          | (with_reducible exact ⟨keepd m4, keepd m2⟩)
          | go_keep)
        (fail)
      go_upto_region 8 with (first
        | (go_at_call 54; (with_reducible refine (cG.out).mono ?_); rintro e wq ⟨rfl, x2, hB2, hpre2, hkv2, hks2, hroom2, hold2, hlost2, hmm2, hm2, hwt2, H2, M4, hfp4⟩))
      clear m0 m1 m2 m3 m4 m5 m6 m7 g0 g1 cG
      have hEq : wq.heap[N]? = some (.cells #[.int .i64 k, .string s, .slice ua l.length uc, .int .u64 b, .int .u64 d, .int .u64 t] 30 (0, 0)) := (M4.other N (blk_lt hE3.out) hNl.out).trans hE3.out
      have hMut := Mut.extL hxd.out M4
      have hbyq := HY.out _ hMut
      have hfp4' : Box (∀ z ∈ x2.fp, z ∈ x.fp ∨ w.heap.size ≤ z) := ⟨fun z hz => by
        rcases hfp4 z hz with h | h
        · exact Or.inl h
        · exact Or.inr (Nat.le_trans hxd.out.size h)⟩
      have hNfp : Box (N ∉ x2.fp) := ⟨fun h => by
        rcases hfp4 _ h with h | h
        · exact hNl.out h
        · have h1 := blk_lt hE3.out
          have h2 : w3.drew.heap.size = w3.heap.size := rfl
          omega⟩
      clear hfp4
      replace H2 := Box.mk H2; replace hEq := Box.mk hEq; replace hMut := Box.mk hMut; replace hbyq := Box.mk hbyq
      replace hwt2 := Box.mk hwt2; replace hlost2 := Box.mk hlost2; replace hpre2 := Box.mk hpre2; replace hks2 := Box.mk hks2; replace hold2 := Box.mk hold2; replace hroom2 := Box.mk hroom2; replace hkv2 := Box.mk hkv2
      clear M4 hmm2 hE3
      obtain ⟨g, c, hv2, hgb, hglt, _⟩ := row_put H2.out.row ((x2.f + x2.m) % x2.R.length) (mod_fits hm2) zX
      obtain ⟨p, hp⟩ : ∃ p, p = (x2.f + x2.m) % x2.R.length := ⟨_, rfl⟩
      have hpl : p < x2.R.length := by rw [hp]; exact mod_fits hm2
      have hl2 : x2.R.length ≤ 1000 := Nat.le_trans H2.out.fit H2.out.room2
      have hf2 : x2.f < x2.R.length := by
        rcases H2.out.fl with h1 | ⟨h1, _⟩
        · exact h1
        · rw [h1] at hm2; simp at hm2
      have hBN : x.B ≠ N := by have := hN.out; omega
      have hgB : g ≠ x.B := fun e => by
        have h1 := H2.out.hd
        rw [hB2] at h1
        obtain ⟨cs, h2⟩ := row_block H2.out.row g (by rw [hv2]; rfl)
        rw [e, h1] at h2
        simp only [Option.some.injEq, Obj.cells.injEq] at h2
        exact absurd h2.2.1 (by decide)
      have hgN : g ≠ N := fun e => hNfp.out (e ▸ fp_mem.2 (Or.inr (Or.inl (by rw [hv2]; rfl))))
      have q0 : ¬ x2.R.length = 0 := by omega
      have q1 : IntKind.i64.wrap ((x2.f : Int) + (x2.m : Int)) = (x2.f : Int) + (x2.m : Int) := by rw [IntKind.wrap_i64]; omega
      have q2 : ((x2.f : Int) + (x2.m : Int)).tmod (x2.R.length : Int) = ((p : Nat) : Int) := by rw [hp]; exact tmod_nat (x2.f + x2.m) x2.R.length
      have q3 : IntKind.i64.wrap ((x2.m : Int) + 1) = (x2.m : Int) + 1 := by rw [IntKind.wrap_i64]; omega
      have o0 : (0 : Int) ≤ (p : Int) := Int.natCast_nonneg p
      have o1 : (p : Int) < (x2.R.length : Int) := Int.ofNat_lt.2 hpl
      have hd2 := H2.out.hd
      rw [hB2] at hd2
      obtain ⟨m0, m1, m2, m3, m4, m5, m6, m7⟩ := blk8 hd2
      rw [hv2] at m4
      obtain ⟨c0, c1, c2, c3, c4, c5⟩ := blk6 hEq.out
      have hcp : Box (Calls Try.prog 46 #[(.agg #[.int .i64 (k), .string s, .slice ua (l.length) uc, .int .u64 (b), .int .u64 (d), .int .u64 (t)])] wq.drew fun e w' => ∃ a' c', e = .returned (.agg #[.int .i64 (k), .string s, .slice a' (l.length) c', .int .u64 (b), .int .u64 (d), .int .u64 (t)]) ∧ OwnB wq.heap.size w' (.slice a' l.length c') l ∧ Ext wq w') := ⟨(copied_any k s ua l uc b d t wq.drew (hbyq.out.ext (Ext.drew1 (Below.refl _ _)))).mono (by
        rintro e w' ⟨a', c', h1, h2, h3⟩
        exact ⟨a', c', h1, h2, Ext.trans' (Ext.drew1 (Below.refl _ _)) h3⟩)⟩
      replace hp := Box.mk hp
      go_region_held3 (fun w' => (w'.cell? ⟨x.B, 4, none⟩ = some (.slice (some ⟨g, 0, none⟩) x2.R.length c) ∧ w'.cell? ⟨x.B, 5, none⟩ = some (.int .i64 (x2.f : Nat)) ∧ w'.cell? ⟨x.B, 6, none⟩ = some (.int .i64 (x2.m : Nat))) ∧ (w'.cell? ⟨N, 0, none⟩ = some (.int .i64 k) ∧ w'.cell? ⟨N, 1, none⟩ = some (.string s) ∧ w'.cell? ⟨N, 2, none⟩ = some (.slice ua l.length uc) ∧ w'.cell? ⟨N, 3, none⟩ = some (.int .u64 b) ∧ w'.cell? ⟨N, 4, none⟩ = some (.int .u64 d) ∧ w'.cell? ⟨N, 5, none⟩ = some (.int .u64 t)))
        (first
          | (with_reducible exact ⟨⟨keepd m4, keepd m5, keepd m6⟩, keepd c0, keepd c1, keepd c2, keepd c3, keepd c4, keepd c5⟩)
          | (with_reducible exact ⟨⟨n4, n5, n6⟩, d0, d1, d2, d3, d4, d5⟩)
          | (with_reducible exact ⟨⟨keep6 hgB n4, keep6 hgB n5, keep6 hgB n6⟩, keep6 hgN d0, keep6 hgN d1, keep6 hgN d2, keep6 hgN d3, keep6 hgN d4, keep6 hgN d5⟩))
        (first
          | (go_at_call 46; (with_reducible refine (hcp.out).mono ?_); rintro e w5 ⟨a9, c9, rfl, hO5, hx5⟩; obtain ⟨n0, n1, n2, n3, n4, n5, n6, n7⟩ := blk8 (Ext.blk hx5 hd2); rw [hv2] at n4; obtain ⟨d0, d1, d2, d3, d4, d5⟩ := blk6 (Ext.blk hx5 hEq.out); obtain ⟨g', c', hv', _, _, hgf, hrow', hmut'⟩ := row_put (ownsRow_ext hx5 H2.out.row) p hpl ⟨k, s, .slice a9 l.length c9, l, b, d, t⟩; rw [hv2] at hv'; simp only [Value.slice.injEq, Option.some.injEq, Addr.mk.injEq] at hv'; obtain ⟨⟨rfl, -, -⟩, -, -⟩ := hv'; obtain ⟨z0, z1, z2, z3, z4, z5⟩ := row_cells (ownsRow_ext hx5 H2.out.row) p hpl g c hv2; generalize x2.R[p] = ez at z0 z1 z2 z3 z4 z5; replace hrow' := Box.mk hrow'; replace hmut' := Box.mk hmut'; replace hO5 := Box.mk hO5; replace hx5 := Box.mk hx5))
      have hrow6 : Box (((((((w5.setCell ⟨g, p * 6, none⟩ (.int .i64 k)).setCell ⟨g, p * 6 + 1, none⟩ (.string s)).setCell ⟨g, p * 6 + 2, none⟩ (.slice a9 l.length c9)).setCell ⟨g, p * 6 + 3, none⟩ (.int .u64 b)).setCell ⟨g, p * 6 + 4, none⟩ (.int .u64 d)).setCell ⟨g, p * 6 + 5, none⟩ (.int .u64 t)).ownsRow base 30 6 x2.rv x2.R.length (xs (x2.R.set p ⟨k, s, .slice a9 l.length c9, l, b, d, t⟩))) := ⟨hrow'.out⟩
      have hmut6 : Box (Mut (fun j => j = g) w5 ((((((w5.setCell ⟨g, p * 6, none⟩ (.int .i64 k)).setCell ⟨g, p * 6 + 1, none⟩ (.string s)).setCell ⟨g, p * 6 + 2, none⟩ (.slice a9 l.length c9)).setCell ⟨g, p * 6 + 3, none⟩ (.int .u64 b)).setCell ⟨g, p * 6 + 4, none⟩ (.int .u64 d)).setCell ⟨g, p * 6 + 5, none⟩ (.int .u64 t))) := ⟨hmut'.out⟩
      clear hrow' hmut' n0 n1 n2 n3 n4 n5 n6 n7 d0 d1 d2 d3 d4 d5 z0 z1 z2 z3 z4 z5 hgf m0 m1 m2 m3 m4 m5 m6 m7 c0 c1 c2 c3 c4 c5
      generalize ((((((w5.setCell ⟨g, p * 6, none⟩ (.int .i64 k)).setCell ⟨g, p * 6 + 1, none⟩ (.string s)).setCell ⟨g, p * 6 + 2, none⟩ (.slice a9 l.length c9)).setCell ⟨g, p * 6 + 3, none⟩ (.int .u64 b)).setCell ⟨g, p * 6 + 4, none⟩ (.int .u64 d)).setCell ⟨g, p * 6 + 5, none⟩ (.int .u64 t)) = w6 at *
      have hd6 := (hmut6.out.other x.B (Nat.lt_of_lt_of_le (blk_lt hd2) hx5.out.size) (fun e => hgB e.symm)).trans (Ext.blk hx5.out hd2)
      obtain ⟨m0, m1, m2, m3, m4, m5, m6, m7⟩ := blk8 hd6
      have hz6 : w6.frozen? ⟨x.B, 6, none⟩ = false := Lib.frozen_of_heap hd6 6
      have hM7 := Mut.put w6 ⟨x.B, 6, none⟩ (.int .i64 ((x2.m : Int) + 1)) (X := fun j => j = x2.B) hB2.symm
      have hd7 : (w6.setCell ⟨x.B, 6, none⟩ (.int .i64 ((x2.m : Int) + 1))).heap[x2.B]? = some (.cells #[.string x2.pre, x2.kv, .int .i64 (x2.room : Nat), .bool x2.old, x2.rv, .int .i64 (x2.f : Nat), .int .i64 ((x2.m + 1 : Nat) : Int), .int .i64 (x2.lost : Nat)] 76 (0, 0)) := by
        rw [hB2]; exact heap_setCell_same w6 x.B 6 _ _ _ hd6
      obtain ⟨f1, f2, f3, f4⟩ := put_fin (y := ⟨k, s, .slice a9 l.length c9, l, b, d, t⟩) H2.out hm2 hp.out hv2 hx5.out ⟨HI.out.s, HI.out.l, HI.out.b, HI.out.d, HI.out.t⟩ hO5.out (Nat.le_trans hb hMut.out.size) hrow6.out hmut6.out hM7 hd7
      replace f1 := Box.mk f1; replace f2 := Box.mk f2; replace f3 := Box.mk f3; replace f4 := Box.mk f4
      clear hM7 hd7 hd6 hd2 q1 q2
      go_wp2
      rw [HP.out]

      exact ⟨ret_bool (by rw [htook.out]; simp [hfull.out]), { x2 with R := x2.R.set p ⟨k, s, .slice a9 l.length c9, l, b, d, t⟩, m := x2.m + 1 }, hB2, md_room (x2 := x2) H.out hfull.out _ hpre2.out hks2.out hroom2.out hold2.out hlost2.out (by rw [f4.out, hwt2.out]; rfl), hkv2.out, f1.out, hMut.out.comp f2.out (fun j hj => hfp4'.out j hj), fun z hz => by
        rcases f3.out z hz with h | h
        · exact hfp4'.out z h
        · exact Or.inr (Nat.le_trans hMut.out.size h)⟩
    · have g0 : ((x.R.length : Int) < (x.room : Int)) = False := by simp; omega
      have g1 : decide ((x.R.length : Int) < (x.room : Int)) = false := by simp [g0]
      go_region_held3 (fun w' => w'.cell? ⟨x.B, 4, none⟩ = some (.slice ra x.R.length rc) ∧ w'.cell? ⟨x.B, 2, none⟩ = some (.int .i64 (x.room : Nat)))
        (first
          | (with_reducible exact ⟨keepd m4, keepd m2⟩)
          | go_keep)
        (fail)
      clear m0 m1 m2 m3 m4 m5 m6 m7 g0 g1
      have hxd : Ext w w3.drew := Ext.drew1 hx3.out
      have hEq : Box (w3.drew.heap[N]? = some (.cells #[.int .i64 k, .string s, .slice ua l.length uc, .int .u64 b, .int .u64 d, .int .u64 t] 30 (0, 0))) := hE3
      have hMut : Box (Mut (fun j => j ∈ x.fp) w w3.drew) := ⟨Mut.of_ext hxd⟩
      have hbyq := Box.mk (HY.out _ hMut.out)
      generalize w3.drew = wq at *
      obtain ⟨x2, hx2⟩ : ∃ x2, x2 = x := ⟨_, rfl⟩
      have H2 : Box (WOk base wq x2) := ⟨by rw [hx2]; exact H.out.ext hxd⟩
      have hB2 : x2.B = x.B := by rw [hx2]
      have hm2 : x2.m < x2.R.length := by rw [hx2]; omega
      have hNfp : Box (N ∉ x2.fp) := by rw [hx2]; exact hNl
      have hfp4' : Box (∀ z ∈ x2.fp, z ∈ x.fp ∨ w.heap.size ≤ z) := ⟨fun z hz => Or.inl (by rw [← hx2]; exact hz)⟩
      have hpre2 : Box (x2.pre = x.pre) := ⟨by rw [hx2]⟩
      have hks2 : Box (x2.ks = x.ks) := ⟨by rw [hx2]⟩
      have hkv2 : Box (x2.kv = x.kv) := ⟨by rw [hx2]⟩
      have hroom2 : Box (x2.room = x.room) := ⟨by rw [hx2]⟩
      have hold2 : Box (x2.old = x.old) := ⟨by rw [hx2]⟩
      have hlost2 : Box (x2.lost = x.lost) := ⟨by rw [hx2]⟩
      have hwt2 : Box (x2.wait = x.wait) := ⟨by rw [hx2]⟩
      clear hx2 hxd hE3
      obtain ⟨g, c, hv2, hgb, hglt, _⟩ := row_put H2.out.row ((x2.f + x2.m) % x2.R.length) (mod_fits hm2) zX
      obtain ⟨p, hp⟩ : ∃ p, p = (x2.f + x2.m) % x2.R.length := ⟨_, rfl⟩
      have hpl : p < x2.R.length := by rw [hp]; exact mod_fits hm2
      have hl2 : x2.R.length ≤ 1000 := Nat.le_trans H2.out.fit H2.out.room2
      have hf2 : x2.f < x2.R.length := by
        rcases H2.out.fl with h1 | ⟨h1, _⟩
        · exact h1
        · rw [h1] at hm2; simp at hm2
      have hBN : x.B ≠ N := by have := hN.out; omega
      have hgB : g ≠ x.B := fun e => by
        have h1 := H2.out.hd
        rw [hB2] at h1
        obtain ⟨cs, h2⟩ := row_block H2.out.row g (by rw [hv2]; rfl)
        rw [e, h1] at h2
        simp only [Option.some.injEq, Obj.cells.injEq] at h2
        exact absurd h2.2.1 (by decide)
      have hgN : g ≠ N := fun e => hNfp.out (e ▸ fp_mem.2 (Or.inr (Or.inl (by rw [hv2]; rfl))))
      have q0 : ¬ x2.R.length = 0 := by omega
      have q1 : IntKind.i64.wrap ((x2.f : Int) + (x2.m : Int)) = (x2.f : Int) + (x2.m : Int) := by rw [IntKind.wrap_i64]; omega
      have q2 : ((x2.f : Int) + (x2.m : Int)).tmod (x2.R.length : Int) = ((p : Nat) : Int) := by rw [hp]; exact tmod_nat (x2.f + x2.m) x2.R.length
      have q3 : IntKind.i64.wrap ((x2.m : Int) + 1) = (x2.m : Int) + 1 := by rw [IntKind.wrap_i64]; omega
      have o0 : (0 : Int) ≤ (p : Int) := Int.natCast_nonneg p
      have o1 : (p : Int) < (x2.R.length : Int) := Int.ofNat_lt.2 hpl
      have hd2 := H2.out.hd
      rw [hB2] at hd2
      obtain ⟨m0, m1, m2, m3, m4, m5, m6, m7⟩ := blk8 hd2
      rw [hv2] at m4
      obtain ⟨c0, c1, c2, c3, c4, c5⟩ := blk6 hEq.out
      have hcp : Box (Calls Try.prog 46 #[(.agg #[.int .i64 (k), .string s, .slice ua (l.length) uc, .int .u64 (b), .int .u64 (d), .int .u64 (t)])] wq.drew fun e w' => ∃ a' c', e = .returned (.agg #[.int .i64 (k), .string s, .slice a' (l.length) c', .int .u64 (b), .int .u64 (d), .int .u64 (t)]) ∧ OwnB wq.heap.size w' (.slice a' l.length c') l ∧ Ext wq w') := ⟨(copied_any k s ua l uc b d t wq.drew (hbyq.out.ext (Ext.drew1 (Below.refl _ _)))).mono (by
        rintro e w' ⟨a', c', h1, h2, h3⟩
        exact ⟨a', c', h1, h2, Ext.trans' (Ext.drew1 (Below.refl _ _)) h3⟩)⟩
      replace hp := Box.mk hp
      go_upto_region 8 with (fail)
      go_region_held3 (fun w' => (w'.cell? ⟨x.B, 4, none⟩ = some (.slice (some ⟨g, 0, none⟩) x2.R.length c) ∧ w'.cell? ⟨x.B, 5, none⟩ = some (.int .i64 (x2.f : Nat)) ∧ w'.cell? ⟨x.B, 6, none⟩ = some (.int .i64 (x2.m : Nat))) ∧ (w'.cell? ⟨N, 0, none⟩ = some (.int .i64 k) ∧ w'.cell? ⟨N, 1, none⟩ = some (.string s) ∧ w'.cell? ⟨N, 2, none⟩ = some (.slice ua l.length uc) ∧ w'.cell? ⟨N, 3, none⟩ = some (.int .u64 b) ∧ w'.cell? ⟨N, 4, none⟩ = some (.int .u64 d) ∧ w'.cell? ⟨N, 5, none⟩ = some (.int .u64 t)))
        (first
          | (with_reducible exact ⟨⟨keepd m4, keepd m5, keepd m6⟩, keepd c0, keepd c1, keepd c2, keepd c3, keepd c4, keepd c5⟩)
          | (with_reducible exact ⟨⟨n4, n5, n6⟩, d0, d1, d2, d3, d4, d5⟩)
          | (with_reducible exact ⟨⟨keep6 hgB n4, keep6 hgB n5, keep6 hgB n6⟩, keep6 hgN d0, keep6 hgN d1, keep6 hgN d2, keep6 hgN d3, keep6 hgN d4, keep6 hgN d5⟩))
        (first
          | (go_at_call 46; (with_reducible refine (hcp.out).mono ?_); rintro e w5 ⟨a9, c9, rfl, hO5, hx5⟩; obtain ⟨n0, n1, n2, n3, n4, n5, n6, n7⟩ := blk8 (Ext.blk hx5 hd2); rw [hv2] at n4; obtain ⟨d0, d1, d2, d3, d4, d5⟩ := blk6 (Ext.blk hx5 hEq.out); obtain ⟨g', c', hv', _, _, hgf, hrow', hmut'⟩ := row_put (ownsRow_ext hx5 H2.out.row) p hpl ⟨k, s, .slice a9 l.length c9, l, b, d, t⟩; rw [hv2] at hv'; simp only [Value.slice.injEq, Option.some.injEq, Addr.mk.injEq] at hv'; obtain ⟨⟨rfl, -, -⟩, -, -⟩ := hv'; obtain ⟨z0, z1, z2, z3, z4, z5⟩ := row_cells (ownsRow_ext hx5 H2.out.row) p hpl g c hv2; generalize x2.R[p] = ez at z0 z1 z2 z3 z4 z5; replace hrow' := Box.mk hrow'; replace hmut' := Box.mk hmut'; replace hO5 := Box.mk hO5; replace hx5 := Box.mk hx5))
      have hrow6 : Box (((((((w5.setCell ⟨g, p * 6, none⟩ (.int .i64 k)).setCell ⟨g, p * 6 + 1, none⟩ (.string s)).setCell ⟨g, p * 6 + 2, none⟩ (.slice a9 l.length c9)).setCell ⟨g, p * 6 + 3, none⟩ (.int .u64 b)).setCell ⟨g, p * 6 + 4, none⟩ (.int .u64 d)).setCell ⟨g, p * 6 + 5, none⟩ (.int .u64 t)).ownsRow base 30 6 x2.rv x2.R.length (xs (x2.R.set p ⟨k, s, .slice a9 l.length c9, l, b, d, t⟩))) := ⟨hrow'.out⟩
      have hmut6 : Box (Mut (fun j => j = g) w5 ((((((w5.setCell ⟨g, p * 6, none⟩ (.int .i64 k)).setCell ⟨g, p * 6 + 1, none⟩ (.string s)).setCell ⟨g, p * 6 + 2, none⟩ (.slice a9 l.length c9)).setCell ⟨g, p * 6 + 3, none⟩ (.int .u64 b)).setCell ⟨g, p * 6 + 4, none⟩ (.int .u64 d)).setCell ⟨g, p * 6 + 5, none⟩ (.int .u64 t))) := ⟨hmut'.out⟩
      clear hrow' hmut' n0 n1 n2 n3 n4 n5 n6 n7 d0 d1 d2 d3 d4 d5 z0 z1 z2 z3 z4 z5 hgf m0 m1 m2 m3 m4 m5 m6 m7 c0 c1 c2 c3 c4 c5
      generalize ((((((w5.setCell ⟨g, p * 6, none⟩ (.int .i64 k)).setCell ⟨g, p * 6 + 1, none⟩ (.string s)).setCell ⟨g, p * 6 + 2, none⟩ (.slice a9 l.length c9)).setCell ⟨g, p * 6 + 3, none⟩ (.int .u64 b)).setCell ⟨g, p * 6 + 4, none⟩ (.int .u64 d)).setCell ⟨g, p * 6 + 5, none⟩ (.int .u64 t)) = w6 at *
      have hd6 := (hmut6.out.other x.B (Nat.lt_of_lt_of_le (blk_lt hd2) hx5.out.size) (fun e => hgB e.symm)).trans (Ext.blk hx5.out hd2)
      obtain ⟨m0, m1, m2, m3, m4, m5, m6, m7⟩ := blk8 hd6
      have hz6 : w6.frozen? ⟨x.B, 6, none⟩ = false := Lib.frozen_of_heap hd6 6
      have hM7 := Mut.put w6 ⟨x.B, 6, none⟩ (.int .i64 ((x2.m : Int) + 1)) (X := fun j => j = x2.B) hB2.symm
      have hd7 : (w6.setCell ⟨x.B, 6, none⟩ (.int .i64 ((x2.m : Int) + 1))).heap[x2.B]? = some (.cells #[.string x2.pre, x2.kv, .int .i64 (x2.room : Nat), .bool x2.old, x2.rv, .int .i64 (x2.f : Nat), .int .i64 ((x2.m + 1 : Nat) : Int), .int .i64 (x2.lost : Nat)] 76 (0, 0)) := by
        rw [hB2]; exact heap_setCell_same w6 x.B 6 _ _ _ hd6
      obtain ⟨f1, f2, f3, f4⟩ := put_fin (y := ⟨k, s, .slice a9 l.length c9, l, b, d, t⟩) H2.out hm2 hp.out hv2 hx5.out ⟨HI.out.s, HI.out.l, HI.out.b, HI.out.d, HI.out.t⟩ hO5.out (Nat.le_trans hb hMut.out.size) hrow6.out hmut6.out hM7 hd7
      replace f1 := Box.mk f1; replace f2 := Box.mk f2; replace f3 := Box.mk f3; replace f4 := Box.mk f4
      clear hM7 hd7 hd6 hd2 q1 q2
      go_wp2
      rw [HP.out]

      exact ⟨ret_bool (by rw [htook.out]; simp [hfull.out]), { x2 with R := x2.R.set p ⟨k, s, .slice a9 l.length c9, l, b, d, t⟩, m := x2.m + 1 }, hB2, md_room (x2 := x2) H.out hfull.out _ hpre2.out hks2.out hroom2.out hold2.out hlost2.out (by rw [f4.out, hwt2.out]; rfl), hkv2.out, f1.out, hMut.out.comp f2.out (fun j hj => hfp4'.out j hj), fun z hz => by
        rcases f3.out z hz with h | h
        · exact hfp4'.out z h
        · exact Or.inr (Nat.le_trans hMut.out.size h)⟩
end Go.Proofs.Ytnblbneehogadaa
