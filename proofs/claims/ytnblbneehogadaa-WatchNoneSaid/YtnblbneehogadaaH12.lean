import Derived.Test.YtnblbneehogadaaH11
/- The law's takes. -/
namespace Go.Proofs.Ytnblbneehogadaa
open Go.RowKit Go.ChangeMaps
theorem vbs_other {T : List EvX} (hn : (vbs T).Nodup) {i q g : Nat} (hi : i < T.length) (hq : q < T.length) (hiq : i < q) (hg : T[i].u.ownBlock = some g) : T[q].u.ownBlock ≠ some g := fun h => by
  rw [vbs_at T i hi, hg, List.nodup_append] at hn
  have hm : T[q] ∈ T.drop (i + 1) := by
    rw [List.mem_iff_getElem]
    refine ⟨q - (i + 1), by rw [List.length_drop]; omega, ?_⟩
    rw [List.getElem_drop]
    congr 1
    omega
  exact hn.2.2 g (by simp) g (vbs_mem.2 ⟨_, hm, h⟩) rfl
theorem eqV_core {x y : EvX} (h : x.core = y.core) : eqV x.k y.k x.s y.s x.l y.l x.b y.b x.d y.d x.t y.t = true := by
  obtain ⟨k, s, u, l, b, d, t⟩ := x
  obtain ⟨k', s', u', l', b', d', t'⟩ := y
  simp only [EvX.core, Prod.mk.injEq] at h
  obtain ⟨rfl, rfl, rfl, rfl, rfl, rfl⟩ := h
  simp [eqV]
structure TkL (base : Nat) (w wr : World) (H : Nat) (mo : Option Nat) (L' : List (Int × WtX)) (x : WtX) (T : List EvX) (lv : Value) (i : Nat) : Prop where
  row : wr.ownsRow w.heap.size 30 6 lv T.length (xs T)
  own : ∀ q (h : q < T.length), i ≤ q → T[q].In ∧ OwnB base wr T[q].u T[q].l
  hub : HubOk base wr H mo L'
  mu : Mut (fun q => q ∈ x.fp) w wr
theorem TkL.ext {base : Nat} {w wr w' : World} {H : Nat} {mo : Option Nat} {L' : List (Int × WtX)} {x : WtX} {T : List EvX} {lv : Value} {i : Nat} (h : TkL base w wr H mo L' x T lv i) (hb : Ext wr w') : TkL base w w' H mo L' x T lv i :=
  ⟨ownsRow_ext hb h.row, fun q hq hi => ⟨(h.own q hq hi).1, ownsRow_ext hb (h.own q hq hi).2⟩, h.hub.ext hb, h.mu.extR hb⟩
theorem TkL.succ {base : Nat} {w wr : World} {H : Nat} {mo : Option Nat} {L' : List (Int × WtX)} {x : WtX} {T : List EvX} {lv : Value} {i : Nat} (h : TkL base w wr H mo L' x T lv i) : TkL base w wr H mo L' x T lv (i + 1) :=
  ⟨h.row, fun q hq hi => h.own q hq (by omega), h.hub, h.mu⟩
/-- One byte of what was taken changes. -/
theorem TkL.byte {o9 : Obj} {base : Nat} {w wr w' : World} {H : Nat} {mo : Option Nat} {L' : List (Int × WtX)} {x : WtX} {T : List EvX} {lv : Value} {i g : Nat} (h : TkL base w wr H mo L' x T lv (i + 1)) (hM : Mut (fun q => q = g) wr w') (hg : wr.heap[g]? = some o9) (ho : ∃ cs, o9 = .cells cs 5 (0, 0)) (h1 : g ∈ x.fp) (h2 : g ∉ fpL L') (hlt : g < w.heap.size) (hn : (vbs T).Nodup) (hi : i < T.length) (hgi : T[i].u.ownBlock = some g) : TkL base w w' H mo L' x T lv (i + 1) := by
  obtain ⟨cs, rfl⟩ := ho
  refine ⟨ownsRow_of h.row (fun b hb => ?_), fun q hq hiq => ⟨(h.own q hq hiq).1, ownsRow_of (h.own q hq hiq).2 (fun b hb => ?_)⟩, h.hub.apart hM (fun q e => by subst e; exact ⟨h2, cs, _, hg, Or.inr (Or.inr rfl)⟩), h.mu.comp hM (fun q e => Or.inl (by rw [e]; exact h1))⟩
  · have := h.row.lt b hb
    exact hM.other b this.2 (by omega)
  · have := (h.own q hq hiq).2.lt b hb
    exact hM.other b this.2 (fun e => by subst e; exact vbs_other hn hi hq (by omega) hgi hb)
/-- What takes leaves. -/
def TksPost (base : Nat) (w : World) (H : Nat) (mo : Option Nat) (L : List (Int × WtX)) (j : Nat) (id : Int) (x : WtX) (n : Nat) (e : Ending) (w' : World) : Prop :=
  e = .returned (.bool true) ∧ ∃ x' : WtX, HubOk base w' H mo (L.set j (id, x')) ∧ x'.md = ⟨x.pre, x.ks, x.room, x.old, ⟨x.wait.drop n, x.lost⟩⟩ ∧ x'.kv = x.kv ∧ x'.B = x.B ∧ Mut (fun q => q ∈ x.fp) w w' ∧ ∀ b ∈ x'.fp, b ∈ x.fp
set_option maxRecDepth 100000 in
set_option maxHeartbeats 8000000 in
theorem takes_any {base : Nat} {w : World} {H : Nat} {mo : Option Nat} {L : List (Int × WtX)} (h : HubOk base w H mo L) {j : Nat} {id : Int} {x : WtX} (hj : L[j]? = some (id, x)) (k : Nat) (hk : k ≤ 9223372036854775807) (want : Value) (M : List EvX) (hW : ∀ w', Mut (fun q => q ∈ x.fp) w w' → Xs w' want M) (hm : M.length = min k x.m) (hcore : x.wait.take M.length = M.map EvX.core) :
    Calls Try.prog 30 #[.pointer (some ⟨H, 0, none⟩), .int .i64 id, .int .i64 (k : Nat), want] w (TksPost base w H mo L j id x M.length) := by
  have hx := h.oks (id, x) (List.mem_of_getElem? hj)
  have hfl : Box (∀ b ∈ x.fp, b < w.heap.size) := ⟨fun b hb => (hx.types hb).2.1⟩
  obtain ⟨wa, wc, rfl, hM1, _⟩ := hW w (Mut.refl _ _)
  obtain ⟨n, hn⟩ : ∃ n, n = M.length := ⟨_, rfl⟩
  have cT : Box (Calls Try.prog 19 #[.pointer (some ⟨H, 0, none⟩), .int .i64 id, .int .i64 (k : Nat)] w fun e w' => ∃ (oa : Option Addr) (oc : Nat) (T : List EvX) (x' : WtX), e = .returned (.tuple #[.slice oa n oc, .int .i64 0]) ∧ T.length = n ∧ T.map EvX.core = M.map EvX.core ∧ TkL base w w' H mo (L.set j (id, x')) x T (.slice oa n oc) 0 ∧ (vbs T).Nodup ∧ (∀ b ∈ vbs T, b ∈ x.fp ∧ b ∉ fpL (L.set j (id, x'))) ∧ x'.md = ⟨x.pre, x.ks, x.room, x.old, ⟨x.wait.drop n, x.lost⟩⟩ ∧ x'.kv = x.kv ∧ x'.B = x.B ∧ ∀ b ∈ x'.fp, b ∈ x.fp) := ⟨(htake_any h hj k hk).mono (by
    rintro e w' ⟨v, T, x', he, hTl, hrow, hown, hwt, s1, s2, s3, s4, s5, s6, s7, hok, hmu, hfp, hnd, hvb⟩
    obtain ⟨oa, oc, rfl⟩ := row_shape hrow
    have hTn : T.length = n := by omega
    obtain ⟨u1, u2⟩ := h.upd_at hj hmu hok s1 (fun b hb => Or.inl (hfp b hb))
    have hwm : T.map EvX.core = x.wait.take n := by rw [hwt, List.take_left' (by rw [List.length_map, hTn])]
    refine ⟨oa, oc, T, x', by rw [he, hTn], hTn, by rw [hwm, hn, hcore], ⟨by rw [← hTn]; rw [hTn] at hrow ⊢; rw [← hTn] at hrow ⊢; exact hrow, fun q hq _ => hown _ (List.getElem_mem hq), u1, hmu⟩, hnd, fun b hb => ⟨(hvb b hb).1, fun hc => ?_⟩, ?_, s3, s1, hfp⟩
    · obtain ⟨p, hp, hbp⟩ := fpL_mem.1 hc
      rw [List.set_eq_take_append_cons_drop, if_pos (List.getElem?_eq_some_iff.1 hj).1] at hp
      have hxfp := (hvb b hb).1
      have hnd2 := h.nd
      obtain ⟨hl, hje⟩ := List.getElem?_eq_some_iff.1 hj
      rw [show L = L.take j ++ (id, x) :: L.drop (j + 1) by rw [← hje, List.getElem_cons_drop, List.take_append_drop]] at hnd2
      unfold fpL at hnd2
      rw [List.flatMap_append, List.flatMap_cons, List.nodup_append] at hnd2
      obtain ⟨n1, n2, n3⟩ := hnd2
      rw [List.nodup_append] at n2
      rcases List.mem_append.1 hp with hp | hp
      · exact n3 b (List.mem_flatMap.2 ⟨p, hp, hbp⟩) b (List.mem_append_left _ hxfp) rfl
      · rcases List.mem_cons.1 hp with rfl | hp
        · exact (hvb b hb).2 hbp
        · exact n2.2.2 b hxfp b (List.mem_flatMap.2 ⟨p, hp, hbp⟩) rfl
    · have hd : x.wait.drop n = x'.wait := by rw [hwt, List.drop_left' (by rw [List.length_map, hTn])]
      unfold WtX.md
      rw [s2, s4, s5, s6, s7, hd])⟩
  rw [← hn] at hM1 ⊢
  have HW := Box.mk hW
  obtain ⟨Post, hPost⟩ : ∃ P, P = TksPost base w H mo L j id x n := ⟨_, rfl⟩
  rw [← hPost]
  have HP := Box.mk hPost
  replace hn := Box.mk hn
  clear hPost h hj hx hW hm hcore
  go_enter Try.func30, Try.ntmps30
  go_wp2_with (first | (go_at_call 19; (with_reducible refine (cT.out).mono ?_); rintro e w1 ⟨oa, oc, T, x', rfl, hTl, hcm, hL0, hnd, hvb, hmd, hkv, hB, hfp⟩))
  replace hTl := Box.mk hTl; replace hcm := Box.mk hcm; replace hL0 := Box.mk hL0; replace hnd := Box.mk hnd; replace hvb := Box.mk hvb
  replace hmd := Box.mk hmd; replace hkv := Box.mk hkv; replace hB := Box.mk hB; replace hfp := Box.mk hfp
  go_loopw [11] (fun iv wr => ∃ i : Nat, i ≤ n ∧ iv = .int .i64 (i : Nat) ∧ Box (TkL base w wr H mo (L.set j (id, x')) x T (.slice oa n oc) i)) (fun iv _ => n - (intOf iv).toNat)
  case atStart => exact ⟨0, Nat.zero_le _, rfl, hL0⟩
  case round =>
    obtain ⟨i, hin, rfl, hR⟩ := hrel
    obtain ⟨wo, rfl⟩ : ∃ wo, wo = wr := ⟨_, rfl⟩
    by_cases hi : i < n
    · have hiT : i < T.length := by rw [hTl.out]; exact hi
      have hiM : i < M.length := by rw [← hn.out]; exact hi
      obtain ⟨a', c', hv', _, _, hC, hAt⟩ := HW.out wo hR.out.mu
      cases hv'
      obtain ⟨b1, o1, rfl, p0, p1, p2, p3, p4, p5⟩ := Xs.row hC i hiM
      obtain ⟨hzi, ⟨za, zc, hzu⟩, hzb⟩ := hAt M[i] (List.getElem_mem hiM)
      obtain ⟨g, hoa⟩ : ∃ g, Value.slice oa n oc = .slice (some ⟨g, 0, none⟩) T.length oc := by
        rcases hR.out.row.2 with ⟨_, h0⟩ | ⟨g, cap, cur, hv, _⟩
        · omega
        · simp only [Value.slice.injEq] at hv
          exact ⟨g, by rw [hv.1, hTl.out]⟩
      obtain ⟨rfl⟩ : oa = some ⟨g, 0, none⟩ := by simp only [Value.slice.injEq] at hoa; exact hoa.1
      obtain ⟨r0, r1, r2, r3, r4, r5⟩ := row_cells hR.out.row i hiT g oc hoa
      obtain ⟨hyi, hyo⟩ := hR.out.own i hiT (Nat.le_refl _)
      obtain ⟨ua, uc, hu⟩ := hyo.shape
      have hcy : T[i].core = M[i].core := by
        have h1 := congrArg (fun l => l[i]?) hcm.out
        simp only [List.getElem?_map, List.getElem?_eq_getElem hiT, List.getElem?_eq_getElem hiM, Option.map_some, Option.some.injEq] at h1
        exact h1
      have hcell : Box (∀ w', TkL base w w' H mo (L.set j (id, x')) x T (.slice (some ⟨g, 0, none⟩) n oc) (i + 1) → w'.cell? ⟨g, i * 6 + 2, none⟩ = some (.slice ua T[i].l.length uc)) := ⟨fun w' h9 => by
        have := (row_cells h9.row i hiT g oc hoa).2.2.1
        rwa [hu] at this⟩
      have hgi : Box (∀ q, Value.ownBlock (.slice ua T[i].l.length uc) = some q → T[i].u.ownBlock = some q ∧ q ∈ x.fp ∧ q ∉ fpL (L.set j (id, x'))) := ⟨fun q hq => by
        rw [← hu] at hq
        obtain ⟨h1, h2⟩ := hvb.out q (vbs_mem.2 ⟨_, List.getElem_mem hiT, hq⟩)
        exact ⟨hq, h1, h2⟩⟩
      have hlb : T[i].l.length ≤ 100000 := hyi.l
      rw [hu] at r2 hyo
      rw [hzu] at p2 hzb
      have cE := Box.mk (fun w' (hx : Ext wo w') => vequal_any T[i].k M[i].k T[i].s M[i].s (.slice ua T[i].l.length uc) (.slice za M[i].l.length zc) T[i].l M[i].l T[i].b M[i].b T[i].d M[i].d T[i].t M[i].t w' ((hyo.ext hx).by (by omega)) (hzb.ext hx))
      rw [eqV_core hcy] at cE
      have hyo' := Box.mk hyo
      have hbyte := Box.mk (fun {wr w9 : World} {q : Nat} {o9 : Obj} (h9 : TkL base w wr H mo (L.set j (id, x')) x T (.slice (some ⟨g, 0, none⟩) n oc) (i + 1)) (hM : Mut (fun z => z = q) wr w9) (hg : wr.heap[q]? = some o9) (ho : ∃ cs, o9 = .cells cs 5 (0, 0)) (h1 : q ∈ x.fp) (h2 : q ∉ fpL (L.set j (id, x'))) (h3 : T[i].u.ownBlock = some q) => h9.byte hM hg ho h1 h2 (hfl.out q h1) hnd.out hiT h3)
      have hR1 := Box.mk hR.out.succ
      clear hC hAt hzi hzu hzb hyi hyo hu hcy hoa
      generalize T[i] = y at *
      generalize M[i] = z at *
      have n0 : (0 : Int) ≤ (i : Int) := by omega
      have n1 : (i : Int) < (n : Int) := by omega
      have n2 : decide ((i : Int) < (n : Int)) = true := decide_eq_true n1
      have n3 : decide (i < n) = true := decide_eq_true hi
      have n5 : (i : Int) < (M.length : Int) := by rw [← hn.out]; exact n1
      have n4 : IntKind.i64.wrap ((i : Int) + 1) = (i : Int) + 1 := by rw [IntKind.wrap_i64]; omega
      have hmsO := meas_dec n i hi
      go_wp2
      go_region_held3 (fun w' => (w'.cell? ⟨g, i * 6, none⟩ = some (.int .i64 y.k) ∧ w'.cell? ⟨g, i * 6 + 1, none⟩ = some (.string y.s) ∧ w'.cell? ⟨g, i * 6 + 2, none⟩ = some (.slice ua y.l.length uc) ∧ w'.cell? ⟨g, i * 6 + 3, none⟩ = some (.int .u64 y.b) ∧ w'.cell? ⟨g, i * 6 + 4, none⟩ = some (.int .u64 y.d) ∧ w'.cell? ⟨g, i * 6 + 5, none⟩ = some (.int .u64 y.t)) ∧ (w'.cell? ⟨b1, o1 + i * 6, none⟩ = some (.int .i64 z.k) ∧ w'.cell? ⟨b1, o1 + i * 6 + 1, none⟩ = some (.string z.s) ∧ w'.cell? ⟨b1, o1 + i * 6 + 2, none⟩ = some (.slice za z.l.length zc) ∧ w'.cell? ⟨b1, o1 + i * 6 + 3, none⟩ = some (.int .u64 z.b) ∧ w'.cell? ⟨b1, o1 + i * 6 + 4, none⟩ = some (.int .u64 z.d) ∧ w'.cell? ⟨b1, o1 + i * 6 + 5, none⟩ = some (.int .u64 z.t)))
        (first
          | (with_reducible exact ⟨⟨keepd r0, keepd r1, keepd r2, keepd r3, keepd r4, keepd r5⟩, keepd p0, keepd p1, keepd p2, keepd p3, keepd p4, keepd p5⟩)
          | (with_reducible exact ⟨⟨Ext.cell hx5 r0, Ext.cell hx5 r1, Ext.cell hx5 r2, Ext.cell hx5 r3, Ext.cell hx5 r4, Ext.cell hx5 r5⟩, Ext.cell hx5 p0, Ext.cell hx5 p1, Ext.cell hx5 p2, Ext.cell hx5 p3, Ext.cell hx5 p4, Ext.cell hx5 p5⟩))
        (first | (go_at_call 20; (with_reducible refine (cE.out _ (Ext.drew1 (Below.refl _ _))).mono ?_); rintro e w5 ⟨rfl, hx5'⟩; have hx5 : Ext wo w5 := Ext.trans' (Ext.drew1 (Below.refl _ _)) hx5'))
      have hR5 := Box.mk (hR1.out.ext hx5)
      have hO5 := Box.mk (hyo'.out.ext hx5)
      clear p0 p1 p2 p3 p4 p5 r0 r1 r2 r3 r4 r5 hx5 hx5' cE
      go_wp2
      go_loopw [12] (fun iv wr => ∃ q : Nat, q ≤ y.l.length ∧ iv = .int .i64 (q : Nat) ∧ (∃ l' : List UInt8, Box (l'.length = y.l.length) ∧ Box (wr.ownsRow base 5 1 (.slice ua y.l.length uc) y.l.length ((nums l').map (Value.int .u8)))) ∧ Box (TkL base w wr H mo (L.set j (id, x')) x T (.slice (some ⟨g, 0, none⟩) n oc) (i + 1))) (fun iv _ => y.l.length - (intOf iv).toNat)
      case atStart => exact ⟨0, Nat.zero_le _, rfl, ⟨y.l, ⟨rfl⟩, hO5⟩, hR5⟩
      case round =>
        obtain ⟨q, hql, rfl, ⟨l', hl', hown⟩, hI⟩ := hrel
        have g2 := hcell.out _ hI.out
        by_cases hlt : q < y.l.length
        · have hlt' : q < l'.length := by rw [hl'.out]; exact hlt
          obtain ⟨gb, rfl⟩ : ∃ gb, ua = some ⟨gb, 0, none⟩ := by
            rcases hown.out.2 with ⟨_, h0⟩ | ⟨gb, cap, cur, hv, _⟩
            · omega
            · simp only [Value.slice.injEq] at hv; exact ⟨gb, hv.1⟩
          have hcl : wr.cell? ⟨gb, q, none⟩ = some (.int .u8 (l'[q].toNat : Int)) := by
            rw [hown.out.cellAt q (by omega)]; simp [nums, hlt']
          have hfz : wr.frozen? ⟨gb, q, none⟩ = false := hown.out.frozenAt q
          obtain ⟨hst1, hst2⟩ := hown.out.stored q (.int .u8 ((l'[q] + 1).toNat : Int))
          have hset : ((nums l').map (Value.int .u8)).set q (.int .u8 ((l'[q] + 1).toNat : Int)) = (nums (l'.set q (l'[q] + 1))).map (Value.int .u8) := by simp [nums, List.map_set]
          rw [hset] at hst1
          have hlen2 : Box ((l'.set q (l'[q] + 1)).length = y.l.length) := ⟨by rw [List.length_set]; exact hl'.out⟩
          obtain ⟨k1, k2, k3⟩ := hgi.out gb rfl
          obtain ⟨cs9, hgb⟩ := row_block hown.out gb rfl
          have hI2 := hbyte.out hI.out (Mut.of_grown hst2) hgb ⟨cs9, rfl⟩ k2 k3 k1
          have hi1 := inc_u8 l'[q]
          have hw1 : IntKind.u8.wrap ((l'[q].toNat : Int) + 1) = ((l'[q] + 1).toNat : Int) := by rw [IntKind.wrap_u8]; exact hi1
          have j0' : (0 : Int) ≤ (q : Int) := by omega
          have j1' : (q : Int) < (y.l.length : Int) := by omega
          have j4' : IntKind.i64.wrap ((q : Int) + 1) = (q : Int) + 1 := by rw [IntKind.wrap_i64]; omega
          have hms := meas_dec y.l.length q hlt
          replace hst1 := Box.mk hst1; replace hI2 := Box.mk hI2
          generalize l'.set q (l'[q] + 1) = l2 at *
          generalize ((l'[q] + 1).toNat : Int) = c1 at *
          generalize (l'[q].toNat : Int) = c0 at *
          clear hst2 hset hi1 hown
          go_wp2
          exact ⟨⟨q + 1, hlt, congrArg (Value.int .i64) (Int.natCast_succ q).symm, ⟨l2, hlen2, hst1⟩, hI2⟩, hms⟩
        · obtain rfl : q = y.l.length := by omega
          have n6 : decide ((y.l.length : Int) < (y.l.length : Int)) = false := decide_eq_false (by omega)
          go_wp2
          exact ⟨⟨i + 1, hi, congrArg (Value.int .i64) (Int.natCast_succ i).symm, hI⟩, hmsO⟩
    · obtain rfl : i = n := by omega
      have n2 : decide ((i : Int) < (i : Int)) = false := decide_eq_false (by omega)
      have n3 : decide (i < i) = false := decide_eq_false (by omega)
      go_wp2
      rw [HP.out]
      exact ⟨rfl, x', hR.out.hub, hmd.out, hkv.out, hB.out, hR.out.mu, hfp.out⟩
end Go.Proofs.Ytnblbneehogadaa
