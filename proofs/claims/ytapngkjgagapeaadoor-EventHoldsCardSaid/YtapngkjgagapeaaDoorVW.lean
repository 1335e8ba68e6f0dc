import Derived.Test.YtapngkjgagapeaaDoorVQ
import Derived.BigQuiet
/- The walk of EventWrites. -/
namespace Go.Proofs.YtapngkjgagapeaaDoor
open Go.RowKit

theorem allOk_snoc (M : List EvX) (k : Nat) (h : k < M.length) : allOk (M.take (k + 1)) = (allOk (M.take k) && (M[k]).ok) := by
  unfold allOk
  rw [List.take_succ_eq_append_getElem h, List.all_append]
  simp
theorem xrow_cells (W w : World) (M : List EvX) (v : Value) (h : Xs W v M) (k : Nat) (hk : k < M.length) (hx : Ext W w) :
    ∃ b o x1 y1 c, v = .slice (some ⟨b, o, none⟩) M.length c ∧ w.cell? ⟨b, o + k * 6, none⟩ = some (.int .i64 (M[k]).k) ∧ w.cell? ⟨b, o + k * 6 + 1, none⟩ = some (.string (M[k]).s) ∧ w.cell? ⟨b, o + k * 6 + 2, none⟩ = some (.slice x1 (M[k]).l.length y1) ∧ w.cell? ⟨b, o + k * 6 + 3, none⟩ = some (.int .u64 (M[k]).b) ∧ w.cell? ⟨b, o + k * 6 + 4, none⟩ = some (.int .u64 (M[k]).d) ∧ w.cell? ⟨b, o + k * 6 + 5, none⟩ = some (.int .u64 (M[k]).t) ∧ (M[k]).In ∧ By w (.slice x1 (M[k]).l.length y1) (M[k]).l ∧ (M[k]).u = .slice x1 (M[k]).l.length y1 := by
  obtain ⟨a, c, rfl, _, _, hC, hAt⟩ := h
  obtain ⟨bb, o, rfl, p0, p1, p2, p3, p4, p5⟩ := Xs.row (CellsAt.ext hx hC) k hk
  obtain ⟨hin, ⟨x1, y1, hu⟩, hby⟩ := hAt M[k] (List.getElem_mem hk)
  rw [hu] at p2 hby
  exact ⟨bb, o, x1, y1, c, rfl, p0, p1, p2, p3, p4, p5, hin, By.ext hx hby, hu⟩
theorem rvalid_x (x : EvX) (a : Option Addr) (c : Nat) (h : x.In) (w : World) :
    Calls Tryd.prog 24 #[.agg #[.int .i64 x.k, .string x.s, .slice a x.l.length c, .int .u64 x.b, .int .u64 x.d, .int .u64 x.t]] w fun e w' => e = .returned (.bool x.ok) ∧ Ext w w' :=
  rvalid_any x.k x.s a x.l.length c x.b x.d x.t w (by have := h.s; omega) (by have := h.l; omega) h.d h.t
theorem rvtext_x (x : EvX) (a : Option Addr) (c : Nat) (h : x.In) (hok : x.ok = true) (w : World) (hv : By w (.slice a x.l.length c) x.l) :
    Calls Tryd.prog 18 #[.agg #[.int .i64 x.k, .string x.s, .slice a x.l.length c, .int .u64 x.b, .int .u64 x.d, .int .u64 x.t]] w fun e w' => e = .returned (.string (bs x.evt.text)) ∧ Ext w w' := by
  obtain ⟨⟨j, hj, h1, h5⟩, _⟩ := okV_parts hok
  have h9 := rvtext_any j x.s a x.l c x.b x.d x.t w h1 h5 h.s h.l h.b h.d h.t hv
  rw [← hj] at h9
  have e : x.evt = ⟨j, ⟨x.s.data.toList, x.l, x.d, x.b⟩, x.t⟩ := by
    unfold EvX.evt
    rw [hj, Int.toNat_natCast]
  rw [e]
  exact h9
theorem bs_cat (a b : List UInt8) : (bs a ++ bs b) ++ (⟨#[10]⟩ : ByteArray) = bs ((a ++ b) ++ [10]) := by
  apply ByteArray.ext
  apply Array.ext'
  simp [bs, ByteArray.data_append]
theorem textX_rep (x : EvX) (n : Nat) : textX (List.replicate n x) = textE (List.replicate n x.evt) := by
  rw [textX_E, List.map_replicate]
/-- what the law makes of the first events: all valid so far, and their text -/
structure Want (M : List EvX) (k : Nat) (f : Bool) (s : ByteArray) : Prop where
  fine : f = allOk (M.take k)
  txt : f = true → s = bs (textX (M.take k))
set_option maxRecDepth 100000 in
set_option maxHeartbeats 16000000 in
theorem writes_few (v : Value) (L : List EvI) (M : List EvX) (many : Int) (W : World) (hL : EvsArg W v L) (hM : Xs W v M) (hM20 : M.length ≤ 20) (hlight : ∀ y ∈ M, y.s.size ≤ 300 ∧ y.l.length ≤ 1000) (hz : fewZ L 20 = true) (w1 : (Lit.int .i64 many).wf = true) (ht : EnvV W) :
    Calls Tryd.prog 7 #[v, .int .i64 many] W fun e W' => e = .returned (.bool true) ∧ Below W.heap.size W W' := by
  have ck : Box (∀ w, Ext W w → Calls Tryd.prog 11 #[] w fun e w' => e = .returned (.bool true) ∧ Ext w w') := ⟨fun w h => known_any w (ht.ext h)⟩
  have hx : Ext W W := Below.refl _ _
  obtain ⟨i0, hi, hz0, hz1, hz2⟩ := info_parts infoEvt
  have cf : Box (Calls Tryd.prog 29 #[v, .int .i64 20] W fun e w' => e = .returned (.bool true) ∧ Ext W w') := ⟨by have h := few_any v L 20 W W hL (by decide) hx; rw [hz] at h; exact h⟩
  have HT := Box.mk ht
  have HX := Box.mk hM
  have HLi := Box.mk hlight
  have cw : Box (∀ w, Ext W w → Calls Tryd.prog 30 #[v] w (WPost w M)) := ⟨fun w h => write_any v M w (hM.ext h) (ht.ext h)⟩
  obtain ⟨a, c, hva, _, hcap, _, hAt⟩ := hM
  have HAt := Box.mk hAt
  generalize hn : M.length = n at *
  have HNL := Box.mk hn
  have hm := wf_i64 w1
  subst hva
  have hsz : Box (∀ k, k ≤ n → (textX (M.take k)).length ≤ 400076 * 20) := ⟨fun k hk => by
    have := textX_len (M.take k) (fun x hx => (hAt x (List.mem_of_mem_take hx)).1)
    rw [List.length_take] at this
    omega⟩
  clear ht hn hz hAt hlight hL w1
  go_enter Tryd.func7, Tryd.ntmps7
  go_wp2_with (first
    | (go_at_call 29; (with_reducible refine (cf.out).mono ?_); rintro e w1 ⟨rfl, hb⟩; have hx := Ext.trans' hx hb))
  go_loopw [5, 6, 7] (fun wv fv iv wr => ∃ k : Nat, k ≤ n ∧ iv = .int .i64 k ∧ ∃ (f : Bool) (s : ByteArray), fv = .bool f ∧ wv = .string s ∧ Box (Want M k f s) ∧ Box (Ext W wr)) (fun _ _ i _ => n - (intOf i).toNat)
  case atStart => exact ⟨0, by omega, rfl, true, ⟨#[]⟩, rfl, rfl, ⟨⟨rfl, fun _ => rfl⟩⟩, ⟨hx⟩⟩
  case round =>
    obtain ⟨k, hk, rfl, f, s, rfl, rfl, hwant, hE⟩ := hrel
    by_cases hkn : k < n
    · have hkM : k < M.length := by rw [HNL.out]; exact hkn
      have hxx := HX.out
      rw [← HNL.out] at hxx
      obtain ⟨bb, o, x1, y1, c9, hva, p0, p1, p2, p3, p4, p5, hin, hby, hu⟩ := xrow_cells W wr M _ hxx k hkM hE.out
      cases hva
      have d1 : decide ((k : Int) < (n : Int)) = true := decide_eq_true (by omega)
      have d2 : decide (k < n) = true := decide_eq_true hkn
      have hsn := Box.mk (allOk_snoc M k hkM)
      have htx := Box.mk (textX_snoc M k hkM)
      have h8 := hsz.out k hk
      have h9 := (M[k]).text_len hin
      cases f with
      | false =>
        have hw2 : Box (Want M (k + 1) false s) := ⟨⟨by rw [hsn.out, ← hwant.out.fine]; rfl, fun h => by cases h⟩⟩
        clear hin hby hu h8 h9 hxx
        generalize M[k] = x at *
        go_wp2
        go_roundw
        case rel => exact ⟨k + 1, by omega, by go_num, _, _, rfl, rfl, hw2, hE⟩
        case measure => simp [intOf]; omega
      | true =>
        have cv := Box.mk (fun w => rvalid_x M[k] x1 y1 hin w)
        cases hok : (M[k]).ok with
        | false =>
          have hw2 : Box (Want M (k + 1) false s) := ⟨⟨by rw [hsn.out, hok, Bool.and_false], fun h => by cases h⟩⟩
          rw [hok] at cv
          have hxr : Ext wr wr := Below.refl _ _
          clear hin hby hu h8 h9 hxx hok hsn htx
          generalize M[k] = x at *
          go_wp2_with (first
            | (go_at_call 24; (with_reducible refine (cv.out _).mono ?_); rintro e w2 ⟨rfl, hb⟩; have hxr := Ext.trans' hxr hb))
          have hE2 := Box.mk (Ext.trans' hE.out hxr)
          go_roundw
          case rel => exact ⟨k + 1, by omega, by go_num, _, _, rfl, rfl, hw2, hE2⟩
          case measure => simp [intOf]; omega
        | true =>
          have hs := hwant.out.txt rfl
          subst hs
          have ct : Box (∀ w', Ext wr w' → _) := ⟨fun w' h => rvtext_x M[k] x1 y1 hin hok w' (hby.ext h)⟩
          have hw2 : Box (Want M (k + 1) true ((bs (textX (M.take k)) ++ bs (M[k]).evt.text) ++ ⟨#[10]⟩)) := ⟨⟨by rw [hsn.out, hok, ← hwant.out.fine]; rfl, fun _ => by rw [htx.out, bs_cat]⟩⟩
          rw [hok] at cv
          have hxr : Ext wr wr := Below.refl _ _
          have z1 : (bs (textX (M.take k))).size ≤ 400076 * 20 := by rw [bs_size]; exact h8
          have z2 : (bs (M[k]).evt.text).size ≤ 400075 := by rw [bs_size]; exact h9
          clear hin hby hu h8 h9 hxx hok hsn htx hwant
          generalize bs (textX (M.take k)) = s0 at *
          generalize bs (M[k]).evt.text = s1 at *
          have g1 : ¬ 9223372036854775807 < s0.size + s1.size := by omega
          have g2 : ¬ 9223372036854775807 < s0.size + s1.size + 1 := by omega
          have HC : Box (wr.cell? ⟨bb, o + k * 6, none⟩ = some (.int .i64 (M[k]).k) ∧ wr.cell? ⟨bb, o + k * 6 + 1, none⟩ = some (.string (M[k]).s) ∧ wr.cell? ⟨bb, o + k * 6 + 2, none⟩ = some (.slice x1 (M[k]).l.length y1) ∧ wr.cell? ⟨bb, o + k * 6 + 3, none⟩ = some (.int .u64 (M[k]).b) ∧ wr.cell? ⟨bb, o + k * 6 + 4, none⟩ = some (.int .u64 (M[k]).d) ∧ wr.cell? ⟨bb, o + k * 6 + 5, none⟩ = some (.int .u64 (M[k]).t)) := ⟨⟨p0, p1, p2, p3, p4, p5⟩⟩
          generalize M[k] = x at *
          go_wp2_with (first
            | (go_at_call 24; (with_reducible refine (cv.out _).mono ?_); rintro e w2 ⟨rfl, hb⟩; have hxr := Ext.trans' hxr hb; clear p0 p1 p2 p3 p4 p5; have p0 := Ext.cell hxr HC.out.1; have p1 := Ext.cell hxr HC.out.2.1; have p2 := Ext.cell hxr HC.out.2.2.1; have p3 := Ext.cell hxr HC.out.2.2.2.1; have p4 := Ext.cell hxr HC.out.2.2.2.2.1; have p5 := Ext.cell hxr HC.out.2.2.2.2.2)
            | (go_at_call 18; (with_reducible refine (ct.out _ hxr).mono ?_); rintro e w2 ⟨rfl, hb⟩; have hxr := Ext.trans' hxr hb))
          have hE2 := Box.mk (Ext.trans' hE.out hxr)
          go_roundw
          case rel => exact ⟨k + 1, by omega, by go_num, _, _, rfl, rfl, hw2, hE2⟩
          case measure => simp [intOf]; omega
    · obtain rfl : k = n := by omega
      have d1 : decide ((k : Int) < (k : Int)) = false := decide_eq_false (by omega)
      have d2 : decide (k < k) = false := decide_eq_false (by omega)
      have hx1 := hE.out
      have htk : M.take k = M := by rw [← HNL.out]; exact List.take_length
      have hf := hwant.out.fine
      rw [htk] at hf
      have hs := hwant.out.txt
      rw [htk] at hs
      cases f with
      | false =>
        have cw2 : Box (∀ w, Ext W w → Calls Tryd.prog 30 #[.slice a k c] w fun e w' => e = .returned (.tuple #[.string ⟨#[]⟩, .int .i64 2]) ∧ Ext w w') := ⟨fun w h => (cw.out w h).mono fun e w' hp => by
          unfold WPost at hp
          rw [← hf] at hp
          exact hp⟩
        clear hf hs cw hwant htk
        go_wp2_with (first
          | (go_at_call 30; (with_reducible refine (cw2.out _ hx1).mono ?_); rintro e w1 ⟨rfl, hb⟩; have hx1 := Ext.trans' hx1 hb)
          | (go_at_call 11; (with_reducible refine (ck.out _ hx1).mono ?_); rintro e w1 ⟨rfl, hb⟩; have hx1 := Ext.trans' hx1 hb))
        go_ret
        exact ⟨rfl, hx1⟩
      | true =>
        have hs' := hs rfl
        subst hs'
        have hM20' : k ≤ 20 := hM20
        have cw2 : Box (∀ w, Ext W w → Calls Tryd.prog 30 #[.slice a k c] w fun e w' => e = .returned (.tuple #[.string (bs (textX M)), .int .i64 0]) ∧ Ext w w') := ⟨fun w h => (cw.out w h).mono fun e w' hp => by
          unfold WPost at hp
          rw [← hf, HNL.out, if_pos rfl, if_pos (by omega)] at hp
          exact hp⟩
        have HF := Box.mk hf
        have heq : ((bs (textX M)).toList == (bs (textX M)).toList) = true := by simp
        generalize bs (textX M) = s0 at *
        clear hf hs cw hwant htk hM20'
        by_cases hA : many < 9998
        · have dA : decide (many < 9998) = true := decide_eq_true hA
          clear hA
          go_wp2_with (first
            | (go_at_call 30; (with_reducible refine (cw2.out _ hx1).mono ?_); rintro e w1 ⟨rfl, hb⟩; have hx1 := Ext.trans' hx1 hb))
          go_quiet (fail)
          go_wp2_with (first
            | (go_at_call 11; (with_reducible refine (ck.out _ (Ext.drewN hx1 _)).mono ?_); rintro e w1 ⟨rfl, hb⟩; have hx1 := Ext.trans' (Ext.drewN hx1 _) hb))
          go_ret
          exact ⟨rfl, hx1⟩
        have dA : decide (many < 9998) = false := decide_eq_false hA
        by_cases hB : 10002 < many
        · have dB : decide (10002 < many) = true := decide_eq_true hB
          clear hA hB
          go_wp2_with (first
            | (go_at_call 30; (with_reducible refine (cw2.out _ hx1).mono ?_); rintro e w1 ⟨rfl, hb⟩; have hx1 := Ext.trans' hx1 hb))
          go_quiet (fail)
          go_wp2_with (first
            | (go_at_call 11; (with_reducible refine (ck.out _ (Ext.drewN hx1 _)).mono ?_); rintro e w1 ⟨rfl, hb⟩; have hx1 := Ext.trans' (Ext.drewN hx1 _) hb))
          go_ret
          exact ⟨rfl, hx1⟩
        have dB : decide (10002 < many) = false := decide_eq_false hB
        by_cases hC : k = 0
        · have dC : ((k : Int) == 0) = true := by rw [hC]; rfl
          clear hA hB hC
          go_wp2_with (first
            | (go_at_call 30; (with_reducible refine (cw2.out _ hx1).mono ?_); rintro e w1 ⟨rfl, hb⟩; have hx1 := Ext.trans' hx1 hb))
          go_quiet (fail)
          go_wp2_with (first
            | (go_at_call 11; (with_reducible refine (ck.out _ (Ext.drewN hx1 _)).mono ?_); rintro e w1 ⟨rfl, hb⟩; have hx1 := Ext.trans' (Ext.drewN hx1 _) hb))
          go_ret
          exact ⟨rfl, hx1⟩
        have dC : ((k : Int) == 0) = false := by rw [beq_eq_false_iff_ne]; omega
        have kpos : (0 : Int) < (k : Int) := by omega
        have kpos' : 0 < k := by omega
        have hkM : 0 < M.length := by rw [HNL.out]; exact kpos'
        have hxx := HX.out
        rw [← HNL.out] at hxx
        have hrow : ∃ bb o x1 y1, a = some ⟨bb, o, none⟩ ∧ Box (∀ w', Ext W w' → w'.cell? ⟨bb, o, none⟩ = some (.int .i64 (M[0]).k) ∧ w'.cell? ⟨bb, o + 1, none⟩ = some (.string (M[0]).s) ∧ w'.cell? ⟨bb, o + 2, none⟩ = some (.slice x1 (M[0]).l.length y1) ∧ w'.cell? ⟨bb, o + 3, none⟩ = some (.int .u64 (M[0]).b) ∧ w'.cell? ⟨bb, o + 4, none⟩ = some (.int .u64 (M[0]).d) ∧ w'.cell? ⟨bb, o + 5, none⟩ = some (.int .u64 (M[0]).t)) ∧ Box ((M[0]).At W) ∧ Box ((M[0]).u = .slice x1 (M[0]).l.length y1) := by
          obtain ⟨bb, o, x1, y1, c9, hva, p0, p1, p2, p3, p4, p5, hin, hby, hu⟩ := xrow_cells W W M _ hxx 0 hkM (Below.refl _ _)
          cases hva
          simp only [Nat.zero_mul, Nat.add_zero] at p0 p1 p2 p3 p4 p5
          exact ⟨bb, o, x1, y1, rfl, ⟨fun w' h => ⟨Ext.cell h p0, Ext.cell h p1, Ext.cell h p2, Ext.cell h p3, Ext.cell h p4, Ext.cell h p5⟩⟩, ⟨HAt.out _ (List.getElem_mem hkM)⟩, ⟨hu⟩⟩
        obtain ⟨bb, o, x1, y1, rfl, hcells, hat0, hu0⟩ := hrow
        have hok0 : Box ((M[0]).ok = true) := ⟨by
          have h := HF.out.symm
          unfold allOk at h
          rw [List.all_eq_true] at h
          exact h _ (List.getElem_mem hkM)⟩
        have hl0 := HLi.out _ (List.getElem_mem hkM)
        have hs9 := hl0.1
        have hl9 := hl0.2
        clear hl0 hxx
        by_cases hD : 8 < (M[0]).s.size + (M[0]).l.length
        · have q9 : IntKind.i64.wrap (((M[0]).s.size : Int) + ((M[0]).l.length : Int)) = ((M[0]).s.size : Int) + ((M[0]).l.length : Int) := by rw [IntKind.wrap_i64]; omega
          have dD : decide ((8 : Int) < ((M[0]).s.size : Int) + ((M[0]).l.length : Int)) = true := decide_eq_true (by omega)
          have dD2 : decide (8 < (M[0]).s.size + (M[0]).l.length) = true := decide_eq_true hD
          clear hA hB hC hD hat0 hok0 hu0
          generalize M[0] = x at *
          go_wp2_with (first
            | (go_at_call 30; (with_reducible refine (cw2.out _ hx1).mono ?_); rintro e w1 ⟨rfl, hb⟩; have hx1 := Ext.trans' hx1 hb; obtain ⟨p0, p1, p2, p3, p4, p5⟩ := hcells.out _ hx1))
          go_quiet (fail)
          go_wp2_with (first
            | (go_at_call 11; (with_reducible refine (ck.out _ (Ext.drewN hx1 _)).mono ?_); rintro e w1 ⟨rfl, hb⟩; have hx1 := Ext.trans' (Ext.drewN hx1 _) hb))
          go_ret
          exact ⟨rfl, hx1⟩
        obtain ⟨mn, rfl⟩ := Int.eq_ofNat_of_zero_le (show (0 : Int) ≤ many by omega)
        have q9 : IntKind.i64.wrap (((M[0]).s.size : Int) + ((M[0]).l.length : Int)) = ((M[0]).s.size : Int) + ((M[0]).l.length : Int) := by rw [IntKind.wrap_i64]; omega
        have dD : decide ((8 : Int) < ((M[0]).s.size : Int) + ((M[0]).l.length : Int)) = false := decide_eq_false (by omega)
        have dD2 : decide (8 < (M[0]).s.size + (M[0]).l.length) = false := decide_eq_false hD
        have mn1 : 9998 ≤ mn := by omega
        have mn2 : mn ≤ 10002 := by omega
        clear hA hB hC hD
        generalize M[0] = x at *
        go_wp2_with (first
          | (go_at_call 30; (with_reducible refine (cw2.out _ hx1).mono ?_); rintro e w1 ⟨rfl, hb⟩; have hx1 := Ext.trans' hx1 hb; obtain ⟨p0, p1, p2, p3, p4, p5⟩ := hcells.out _ hx1))
        go_quiet (fail)
        go_wp2
        have HX1 := Box.mk (fun n => Ext.drewN hx1 n)
        clear p0 p1 p2 p3 p4 p5 hx1 hb
        go_loopw [10, 11] (fun ov iv wr => ∃ t : Nat, t ≤ mn ∧ iv = .int .i64 t ∧ wr.ownsRow W.heap.size 28 6 ov t (xs (List.replicate t x)) ∧ Box (Ext W wr)) (fun _ i _ => mn - (intOf i).toNat)
        case atStart => exact ⟨0, by omega, rfl, World.ownsRow_nil _ _ _ _, ⟨HX1.out _⟩⟩
        case round =>
          obtain ⟨t, ht, rfl, hown, hE2⟩ := hrel
          obtain ⟨a3, c3, rfl⟩ := row_shape hown
          by_cases htm : t < mn
          · have e1 : decide ((t : Int) < (mn : Int)) = true := decide_eq_true (by omega)
            have e2 : decide (t < mn) = true := decide_eq_true htm
            obtain ⟨p0, p1, p2, p3, p4, p5⟩ := hcells.out _ hE2.out
            have hxc : Box (xs (List.replicate (t + 1) x) = xs (List.replicate t x) ++ [.int .i64 x.k, .string x.s, .slice x1 x.l.length y1, .int .u64 x.b, .int .u64 x.d, .int .u64 x.t]) := ⟨by
              rw [List.replicate_succ', xs_app, ← hu0.out]
              simp [xs, xC]⟩
            have hsz9 := hE2.out.size
            have hbyte : (t + 1) * 72 ≤ 140737488355328 := by omega
            go_wp2_with (at_builtin; refine wpList_push rfl _ _ 41 rfl W.heap.size 28 i0 _ 6 72 Tryd.underlying41 hi hz0 hz1 hz2 rfl (by decide) _ _ _ rfl hown [.int .i64 x.k, .string x.s, .slice x1 x.l.length y1, .int .u64 x.b, .int .u64 x.d, .int .u64 x.t] rfl rfl (by simp [Value.oneCell']) (by omega) hbyte hsz9 ?_; intro v1 w3 hown3 hg3 hbel3 hs3)
            rw [← hxc.out] at hown3
            have hE3 := Box.mk (Below.trans hE2.out hbel3)
            clear hg3 hbel3
            go_roundw
            case rel => exact ⟨t + 1, by omega, by go_num, hown3, hE3⟩
            case measure => simp [intOf]; omega
          · obtain rfl : t = mn := by omega
            have e1 : decide ((t : Int) < (t : Int)) = false := decide_eq_false (by omega)
            have e2 : decide (t < t) = false := decide_eq_false (by omega)
            have hat1 := hat0.out.ext hE2.out
            have hX2 : Xs wr (.slice a3 t c3) (List.replicate t x) := Xs.of_row (by rw [List.length_replicate]; exact hown) (by rw [List.length_replicate]; omega) (fun y hy => by rw [List.eq_of_mem_replicate hy]; exact hat1)
            have hall : allOk (List.replicate t x) = true := by
              unfold allOk
              rw [List.all_eq_true]
              intro y hy
              rw [List.eq_of_mem_replicate hy]; exact hok0.out
            have hx2 : Ext wr wr := Below.refl _ _
            have cw3 : Box (Calls Tryd.prog 30 #[.slice a3 t c3] wr fun e w' => e = .returned (if t ≤ 10000 then .tuple #[.string (bs (textX (List.replicate t x))), .int .i64 0] else .tuple #[.string ⟨#[]⟩, .int .i64 7]) ∧ Ext wr w') := ⟨(write_any _ _ wr hX2 (HT.out.ext hE2.out)).mono fun e w' hp => by
              unfold WPost at hp
              rw [hall, if_pos rfl, List.length_replicate] at hp
              exact hp⟩
            by_cases hmx : 10000 < t
            · have f1 : decide (10000 < (t : Int)) = true := decide_eq_true (by omega)
              have f2 : decide (10000 < t) = true := decide_eq_true hmx
              rw [if_neg (by omega)] at cw3
              clear hX2 hall hown hat1 hmx
              go_wp2_with (first
                | (go_at_call 30; (with_reducible refine cw3.out.mono ?_); rintro e w1 ⟨rfl, hb⟩; have hx2 := Ext.trans' hx2 hb)
                | (go_at_call 11; (with_reducible refine (ck.out _ (Ext.trans' hE2.out hx2)).mono ?_); rintro e w1 ⟨rfl, hb⟩; have hx2 := Ext.trans' hx2 hb))
              go_ret
              exact ⟨rfl, Ext.trans' hE2.out hx2⟩
            · have f1 : decide (10000 < (t : Int)) = false := decide_eq_false (by omega)
              have f2 : decide (10000 < t) = false := decide_eq_false hmx
              rw [if_pos (by omega)] at cw3
              have he := evt_of_ok hok0.out hat0.out.1
              have cR : Box (∀ w', Ext W w' → Calls Tryd.prog 31 #[.string (bs (textX (List.replicate t x)))] w' fun e w'' => ∃ a c, e = .returned (.tuple #[.slice a t c, .int .i64 0, .int .i64 0]) ∧ Ext w' w'') := ⟨fun w' h => by
                rw [textX_rep]
                refine (read_any (List.replicate t x.evt) w' (by rw [List.length_replicate]; omega) (fun v hv => by rw [List.eq_of_mem_replicate hv]; exact ⟨he.2.1, he.1⟩) (HT.out.ext h)).mono fun e w'' hp => ?_
                obtain ⟨v, N, h1, ⟨a, c, rfl, _⟩, h3, _, h5⟩ := hp
                have hN : N.length = t := by
                  have := congrArg List.length h3
                  simpa using this
                rw [hN] at h1
                exact ⟨a, c, h1, h5⟩⟩
              generalize bs (textX (List.replicate t x)) = sL at *
              clear hX2 hall hown hat1 hmx he
              go_wp2_with (first
                | (go_at_call 30; (with_reducible refine cw3.out.mono ?_); rintro e w1 ⟨rfl, hb⟩; have hx2 := Ext.trans' hx2 hb)
                | (go_at_call 31; (with_reducible refine (cR.out _ (Ext.trans' hE2.out hx2)).mono ?_); rintro e w1 ⟨a7, c7, rfl, hb⟩; have hx2 := Ext.trans' hx2 hb)
                | (go_at_call 11; (with_reducible refine (ck.out _ (Ext.trans' hE2.out hx2)).mono ?_); rintro e w1 ⟨rfl, hb⟩; have hx2 := Ext.trans' hx2 hb))
              go_ret
              exact ⟨rfl, Ext.trans' hE2.out hx2⟩
set_option maxRecDepth 100000 in
set_option maxHeartbeats 4000000 in
theorem lawEventWrites_walk (v : Value) (many : Int) (W : World) (hv : ∃ L, EvsArg W v L) (w1 : (Lit.int .i64 many).wf = true) (ht : EnvV W) :
    Calls Tryd.prog 7 #[v, .int .i64 many] W fun e W' => e = .returned (.bool true) ∧ Below W.heap.size W W' := by
  obtain ⟨L, hL⟩ := hv
  cases hz : fewZ L 20 with
  | true =>
    obtain ⟨h1, h2⟩ := fewZ_yes hz
    obtain ⟨M, g1, g2, g3⟩ := hL.few (by omega) h2
    exact writes_few v L M many W hL g2 (by omega) g3 hz w1 ht
  | false =>
    have ck : Box (∀ w, Ext W w → Calls Tryd.prog 11 #[] w fun e w' => e = .returned (.bool true) ∧ Ext w w') := ⟨fun w h => known_any w (ht.ext h)⟩
    have hx : Ext W W := Below.refl _ _
    have cf : Box (Calls Tryd.prog 29 #[v, .int .i64 20] W fun e w' => e = .returned (.bool false) ∧ Ext W w') := ⟨by have h := few_any v L 20 W W hL (by decide) hx; rw [hz] at h; exact h⟩
    obtain ⟨a, c, rfl, _⟩ := hL
    clear ht hz w1
    go_enter Tryd.func7, Tryd.ntmps7
    go_wp2_with (first
      | (go_at_call 29; (with_reducible refine (cf.out).mono ?_); rintro e w1 ⟨rfl, hb⟩; have hx := Ext.trans' hx hb)
      | (go_at_call 11; (with_reducible refine (ck.out _ hx).mono ?_); rintro e w1 ⟨rfl, hb⟩; have hx := Ext.trans' hx hb))
    go_ret
    exact ⟨rfl, hx⟩
end Go.Proofs.YtapngkjgagapeaaDoor
