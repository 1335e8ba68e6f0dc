import Derived.Test.YtcofejbkbcdopaaGreatDoorR43O
import Derived.Test.YtcofejbkbcdopaaGreatDoorR31
import Derived.Test.YtcofejbkbcdopaaGreatDoorR23
/- The walk of ReportHolds. -/
namespace Go.Proofs.YtcofejbkbcdopaaGreatDoor
open Go.RowKit
theorem hG_le (L : List Res) : fR L 3 ≤ fR L 2 := by
  have h : nH L ≤ nG L := by
    unfold nH nG
    refine List.countP_mono_left fun x _ hx => ?_
    simp only [Bool.and_eq_true] at hx ⊢
    exact hx.1
  show (nH L : Int) ≤ (nG L : Int)
  omega
theorem scs_back {L : List SI} (h : allS L = true) : (scs L).map siS = L := by
  unfold scs
  rw [List.map_map]
  unfold allS at h
  rw [List.all_eq_true] at h
  conv => rhs; rw [← List.map_id L]
  exact List.map_congr_left fun x hx => si_back (h x hx)
theorem scs_oks {L : List SI} (h : allS L = true) : ∀ x ∈ scs L, x.ok := by
  intro x hx
  unfold allS at h
  rw [List.all_eq_true] at h
  obtain ⟨y, hy, rfl⟩ := List.mem_map.1 hx
  exact (SI.sc_ok (h y hy)).1
/-- What Run and ReadRun answer. -/
theorem run_info (f : Nat → Int) (hf : ∀ i, i < 12 → f i ≤ 9223372036854775807) (W : World) (ht : EnvV W) : ∃ (y : ByteArray) (en : Int),
    (∀ w', Ext W w' → Calls Tryz.prog 6 #[(.agg #[.int .i64 (f 0), .int .i64 (f 1), .int .i64 (f 2), .int .i64 (f 3), .int .i64 (f 4), .int .i64 (f 5), .int .i64 (f 6), .int .i64 (f 7), .int .i64 (f 8), .int .i64 (f 9), .int .i64 (f 10), .int .i64 (f 11)])] w' fun e w'' => e = .returned (.tuple #[.string y, .int .i64 en]) ∧ Ext w' w'') ∧
    ((okR f ∧ en = 0 ∧ y = ⟨(txtR (natF f)).toArray⟩ ∧ ∀ w', Ext W w' → Calls Tryz.prog 8 #[.string y] w' fun e w'' => e = .returned (.tuple #[(.agg #[.int .i64 (f 0), .int .i64 (f 1), .int .i64 (f 2), .int .i64 (f 3), .int .i64 (f 4), .int .i64 (f 5), .int .i64 (f 6), .int .i64 (f 7), .int .i64 (f 8), .int .i64 (f 9), .int .i64 (f 10), .int .i64 (f 11)]), .int .i64 0]) ∧ Ext w' w'') ∨ (en = 2)) := by
  obtain ⟨y, en, b, c1, c2, hc⟩ := texts_start f hf W ht
  by_cases hok : okR f
  · refine ⟨⟨(txtR (natF f)).toArray⟩, 0, run_yes f hf hok W ht, Or.inl ⟨hok, rfl, rfl, fun w' h => ?_⟩⟩
    have hfit := fit_txt f hok hf
    have hsz := txtK_long f hf 12 (Nat.le_refl _)
    have hsz2 : (⟨(txtR (natF f)).toArray⟩ : ByteArray).size ≤ 389 := hsz
    refine (readrun_any ⟨(txtR (natF f)).toArray⟩ (by omega) w' (ht.ext h)).mono fun e w'' hp => ?_
    unfold RrP at hp
    rcases hp with ⟨⟨_, rfl⟩ | ⟨hn, _⟩, hb⟩
    · refine ⟨?_, hb⟩
      have e1 : rC (readR (txtR (natF f))) = rC f := rC_congr hfit.1
      have e2 : (Value.agg (rC (readR (txtR (natF f))))) = .agg (rC f) := by rw [e1]
      exact congrArg (fun v => Ending.returned (.tuple #[v, .int .i64 0])) e2
    · exact absurd hfit.2 hn
  · refine ⟨⟨#[]⟩, 2, fun w' h => ?_, Or.inr rfl⟩
    refine (run_any f hf w' (ht.ext h)).mono fun e w'' hp => ?_
    unfold RunP at hp
    rcases hp with ⟨⟨hn, _⟩ | ⟨_, rfl⟩, hb⟩
    · exact absurd hn hok
    · exact ⟨rfl, hb⟩
/-- What Scores and ReadScores answer. -/
theorem scores_info (a : Option Addr) (c : Nat) (L : List SI) (hL : L.length ≤ 20) (W : World) (hC : CellsAt W a (rows SI.cs L)) (ht : EnvV W) : ∃ (y : ByteArray) (en : Int),
    (∀ w', Ext W w' → Calls Tryz.prog 11 #[.slice a L.length c] w' fun e w'' => e = .returned (.tuple #[.string y, .int .i64 en]) ∧ Ext w' w'') ∧
    ((allS L = true ∧ en = 0 ∧ y = ⟨(txtS (scs L)).toArray⟩ ∧ ∀ w', Ext W w' → Calls Tryz.prog 12 #[.string y] w' fun e w'' => ∃ a5 c5, e = .returned (.tuple #[.slice a5 L.length c5, .int .i64 0, .int .i64 0]) ∧ CellsAt w'' a5 (rows SI.cs L) ∧ Ext w' w'') ∨ (en = 2)) := by
  have hs : ∀ w', Ext W w' → Calls Tryz.prog 11 #[.slice a L.length c] w' (ScsP L w') := fun w' h => scores_any a c L w' (by omega) (hC.ext h) (ht.ext h).env.tabs
  cases hA : allS L with
  | true =>
    refine ⟨⟨(txtS (scs L)).toArray⟩, 0, fun w' h => (hs w' h).mono fun e w'' hp => ?_, Or.inl ⟨rfl, rfl, rfl, fun w' h => ?_⟩⟩
    · unfold ScsP at hp
      rw [if_neg (by omega), hA, if_pos rfl] at hp
      exact hp
    · have hok := scs_oks hA
      have hlen : (scs L).length = L.length := by unfold scs; rw [List.length_map]
      have hsz := txtS_len (scs L) hok
      have hsz2 : (⟨(txtS (scs L)).toArray⟩ : ByteArray).size ≤ 73 * (scs L).length := hsz
      refine (readscores_any ⟨(txtS (scs L)).toArray⟩ w' (by omega) (ht.ext h).env).mono fun e w'' hp => ?_
      have hge : (scs L).length ≤ (txtS (scs L)).length := by
        clear hsz hsz2 hp
        induction (scs L) with
        | nil => simp
        | cons x l ih =>
          have := line_pos x
          simp only [txtS, List.flatMap_cons, List.length_append, List.length_cons] at ih ⊢
          omega
      have hrd : rdS [] (linesL (⟨(txtS (scs L)).toArray⟩ : ByteArray).size (⟨(txtS (scs L)).toArray⟩ : ByteArray).data.toList) = (scs L, 0, 0) := by
        show rdS [] (linesL (txtS (scs L)).length (txtS (scs L))) = _
        rw [lines_txt (scs L) _ hge, rdS_txt (scs L) hok [] (by simp; omega)]
        rfl
      rw [hrd] at hp
      obtain ⟨a5, c5, rfl, hr, hb⟩ := hp
      refine ⟨a5, c5, ?_, ?_, hb⟩
      · rw [hlen]; rfl
      · have h2 := own_cells hr (by show (scs L).length ≤ 2000; omega)
        rw [rowsS_si, scs_back hA] at h2
        exact h2
  | false =>
    refine ⟨⟨#[]⟩, 2, fun w' h => (hs w' h).mono fun e w'' hp => ?_, Or.inr rfl⟩
    unfold ScsP at hp
    rw [if_neg (by omega), hA, if_neg Bool.false_ne_true] at hp
    exact hp
theorem eqRB (f g : Nat → Int) (w : World) : (Op.equalIn 10000 24 (.agg #[.int .i64 (f 0), .int .i64 (f 1), .int .i64 (f 2), .int .i64 (f 3), .int .i64 (f 4), .int .i64 (f 5), .int .i64 (f 6), .int .i64 (f 7), .int .i64 (f 8), .int .i64 (f 9), .int .i64 (f 10), .int .i64 (f 11)]) (.agg #[.int .i64 (g 0), .int .i64 (g 1), .int .i64 (g 2), .int .i64 (g 3), .int .i64 (g 4), .int .i64 (g 5), .int .i64 (g 6), .int .i64 (g 7), .int .i64 (g 8), .int .i64 (g 9), .int .i64 (g 10), .int .i64 (g 11)])).run Tryz.prog w = .ok (eqB f g) w := eqRC f g w
set_option maxRecDepth 100000 in
set_option maxHeartbeats 8000000 in
theorem holds_far (f g : Nat → Int) (a : Option Addr) (c : Nat) (L : List SI) (a' : Option Addr) (c' : Nat) (M : List SI) (r : Option Addr) (cr : Nat) (R : List Res) (W : World)
    (hR : R.length ≤ cr) (hcr : cr ≤ 9223372036854775807) (hC : CellsAt W r (rows Res.cs R)) (h : 20 < L.length ∨ 20 < M.length ∨ ¬ LightP R 40) (ht : EnvV W) :
    Calls Tryz.prog 4 #[(.agg #[.int .i64 (f 0), .int .i64 (f 1), .int .i64 (f 2), .int .i64 (f 3), .int .i64 (f 4), .int .i64 (f 5), .int .i64 (f 6), .int .i64 (f 7), .int .i64 (f 8), .int .i64 (f 9), .int .i64 (f 10), .int .i64 (f 11)]), (.agg #[.int .i64 (g 0), .int .i64 (g 1), .int .i64 (g 2), .int .i64 (g 3), .int .i64 (g 4), .int .i64 (g 5), .int .i64 (g 6), .int .i64 (g 7), .int .i64 (g 8), .int .i64 (g 9), .int .i64 (g 10), .int .i64 (g 11)]), .slice a L.length c, .slice a' M.length c', .slice r R.length cr] W fun e W' => e = .returned (.bool true) ∧ Below W.heap.size W W' := by
  have ck : Box (∀ w', Ext W w' → _) := ⟨fun w' h => known_any w' (ht.ext h)⟩
  have hx : Ext W ((W.alloc (.cells #[.int .i64 (f 0), .int .i64 (f 1), .int .i64 (f 2), .int .i64 (f 3), .int .i64 (f 4), .int .i64 (f 5), .int .i64 (f 6), .int .i64 (f 7), .int .i64 (f 8), .int .i64 (f 9), .int .i64 (f 10), .int .i64 (f 11)] 24)).alloc (.cells #[.int .i64 (g 0), .int .i64 (g 1), .int .i64 (g 2), .int .i64 (g 3), .int .i64 (g 4), .int .i64 (g 5), .int .i64 (g 6), .int .i64 (g 7), .int .i64 (g 8), .int .i64 (g 9), .int .i64 (g 10), .int .i64 (g 11)] 24)) := Ext.alloc (Ext.alloc (Below.refl _ _) _) _
  have key : (decide ((20 : Int) < (L.length : Int)) = true ∧ decide (20 < L.length) = true) ∨ (decide ((20 : Int) < (L.length : Int)) = false ∧ decide (20 < L.length) = false ∧ decide ((20 : Int) < (M.length : Int)) = true ∧ decide (20 < M.length) = true) ∨
      (decide ((20 : Int) < (L.length : Int)) = false ∧ decide (20 < L.length) = false ∧ decide ((20 : Int) < (M.length : Int)) = false ∧ decide (20 < M.length) = false ∧ ¬ LightP R 40) := by
    by_cases h1 : 20 < L.length
    · exact Or.inl ⟨decide_eq_true (by omega), decide_eq_true h1⟩
    · have h2 := h.resolve_left h1
      by_cases h3 : 20 < M.length
      · exact Or.inr (Or.inl ⟨decide_eq_false (by omega), decide_eq_false h1, decide_eq_true (by omega), decide_eq_true h3⟩)
      · exact Or.inr (Or.inr ⟨decide_eq_false (by omega), decide_eq_false h1, decide_eq_false (by omega), decide_eq_false h3, h2.resolve_left h3⟩)
  clear h ht
  have cl : Box (¬ LightP R 40 → ∀ w', Ext W w' → Calls Tryz.prog 10 #[.slice r R.length cr, .int .i64 40] w' fun e w'' => e = .returned (.bool false) ∧ Ext w' w'') := ⟨fun hn w' hb => light_any r cr R w' (by omega) (hC.ext hb) false ⟨fun h => (by cases h), fun h => absurd h hn⟩⟩
  clear hC hR hcr
  generalize L.length = n at *
  generalize M.length = m at *
  generalize R.length = k at *
  rcases key with ⟨d1, d2⟩ | ⟨d1, d2, d3, d4⟩ | ⟨d1, d2, d3, d4, d5⟩
  case inr.inr =>
    have c2 := Box.mk (cl.out d5)
    clear cl d5
    go_enter Tryz.func4, Tryz.ntmps4
    go_wp2_with (first
      | (go_at_call 10; (with_reducible refine (c2.out _ hx).mono ?_); rintro e w3 ⟨rfl, hb⟩; replace hx := Ext.trans' hx hb)
      | (go_at_call 5; (with_reducible refine (ck.out _ hx).mono ?_); rintro e w4 ⟨rfl, hb⟩; replace hx := Ext.trans' hx hb))
    go_ret
    exact ⟨rfl, hx⟩
  all_goals
    go_enter Tryz.func4, Tryz.ntmps4
    go_wp2_with (first
      | (go_at_call 5; (with_reducible refine (ck.out _ hx).mono ?_); rintro e w4 ⟨rfl, hb⟩; replace hx := Ext.trans' hx hb))
    go_ret
    exact ⟨rfl, hx⟩
set_option maxRecDepth 100000 in
set_option maxHeartbeats 40000000 in
theorem holds_main (f g : Nat → Int) (hf : ∀ i, i < 12 → f i ≤ 9223372036854775807) (hg : ∀ i, i < 12 → g i ≤ 9223372036854775807) (a : Option Addr) (c : Nat) (L : List SI) (a' : Option Addr) (c' : Nat) (M : List SI) (r : Option Addr) (cr : Nat) (R : List Res) (W : World)
    (hL : L.length ≤ 20) (hM : M.length ≤ 20) (hR : R.length ≤ cr) (hcr : cr ≤ 9223372036854775807) (hl : LightP R 40) (hCL : CellsAt W a (rows SI.cs L)) (hCM : CellsAt W a' (rows SI.cs M)) (hC : CellsAt W r (rows Res.cs R)) (hE : ∀ x ∈ R, CellsAt W x.ea (rows Ev6.cs x.el)) (ht : EnvV W) :
    Calls Tryz.prog 4 #[(.agg #[.int .i64 (f 0), .int .i64 (f 1), .int .i64 (f 2), .int .i64 (f 3), .int .i64 (f 4), .int .i64 (f 5), .int .i64 (f 6), .int .i64 (f 7), .int .i64 (f 8), .int .i64 (f 9), .int .i64 (f 10), .int .i64 (f 11)]), (.agg #[.int .i64 (g 0), .int .i64 (g 1), .int .i64 (g 2), .int .i64 (g 3), .int .i64 (g 4), .int .i64 (g 5), .int .i64 (g 6), .int .i64 (g 7), .int .i64 (g 8), .int .i64 (g 9), .int .i64 (g 10), .int .i64 (g 11)]), .slice a L.length c, .slice a' M.length c', .slice r R.length cr] W fun e W' => e = .returned (.bool true) ∧ Below W.heap.size W W' := by
  obtain ⟨dC, huC, hdC⟩ := und_row rowRC
  obtain ⟨y, en, cy, hy⟩ := run_info f hf W ht
  obtain ⟨z, gn, cz, hz⟩ := run_info g hg W ht
  obtain ⟨ys, es, cys, hys⟩ := scores_info a c L hL W hCL ht
  obtain ⟨zs, gs, czs, hzs⟩ := scores_info a' c' M hM W hCM ht
  have ck : Box (∀ w', Ext W w' → _) := ⟨fun w' h => known_any w' (ht.ext h)⟩
  have cl : Box (∀ w', Ext W w' → Calls Tryz.prog 10 #[.slice r R.length cr, .int .i64 40] w' fun e w'' => e = .returned (.bool true) ∧ Ext w' w'') := ⟨fun w' hb => light_any r cr R w' (by omega) (hC.ext hb) true ⟨fun _ => hl, fun _ => rfl⟩⟩
  have hl40 := hl.1
  have co : Box (∀ w', Ext W w' → Calls Tryz.prog 14 #[.slice r R.length cr] w' fun e w'' => e = .returned (.tuple #[(.agg #[.int .i64 (fR R 0), .int .i64 (fR R 1), .int .i64 (fR R 2), .int .i64 (fR R 3), .int .i64 (fR R 4), .int .i64 (fR R 5), .int .i64 (fR R 6), .int .i64 (fR R 7), .int .i64 (fR R 8), .int .i64 (fR R 9), .int .i64 (fR R 10), .int .i64 (fR R 11)]), .int .i64 0]) ∧ Ext w' w'') := ⟨fun w' h => ofrun_any r cr R w' (by omega) hl.2 (hC.ext h) (fun x hx => (hE x hx).ext h) (ht.ext h)⟩
  have hG := hG_le R
  have h0 : fR R 0 = (R.length : Int) := rfl
  generalize fR R = q at *
  -- the texts of two counts
  have hyz : Box (okR f → okR g → y = ⟨(txtR (natF f)).toArray⟩ → z = ⟨(txtR (natF g)).toArray⟩ → (y.toList == z.toList) = eqB f g) := ⟨fun h1 h2 e1 e2 => by
    rw [Lib.toList_data, Lib.toList_data, e1, e2, Bool.eq_iff_iff, beq_iff_eq, eqB_iff]
    constructor
    · exact fun h => txtR_inj h1 h2 hf hg h
    · exact fun h => txtK_congr (fun i hi => by unfold natF; rw [h i hi])⟩
  -- the texts of two lists of scores
  have cS : Box (∀ (b : Bool), (b = true ↔ L = M) → ∀ w', Ext W w' → Calls Tryz.prog 13 #[.slice a L.length c, .slice a' M.length c'] w' fun e w'' => e = .returned (.bool b) ∧ Ext w' w'') := ⟨fun b hb w' h => same_any a a' c c' L M b hb w' (by omega) (by omega) (hCL.ext h) (hCM.ext h)⟩
  have cT : Box (∀ a5 c5 w', CellsAt w' a5 (rows SI.cs L) → Ext W w' → Calls Tryz.prog 13 #[.slice a5 L.length c5, .slice a L.length c] w' fun e w'' => e = .returned (.bool true) ∧ Ext w' w'') := ⟨fun a5 c5 w' h1 h2 => same_any a5 a c5 c L L true ⟨fun _ => rfl, fun _ => rfl⟩ w' (by omega) (by omega) h1 (hCL.ext h2)⟩
  have hsyz : Box (allS L = true → allS M = true → ys = ⟨(txtS (scs L)).toArray⟩ → zs = ⟨(txtS (scs M)).toArray⟩ → ((ys.toList == zs.toList) = true ↔ L = M)) := ⟨fun h1 h2 e1 e2 => by
    rw [Lib.toList_data, Lib.toList_data, e1, e2, beq_iff_eq]
    constructor
    · intro h
      have hl1 : (scs L).length ≤ 1000 := by unfold scs; rw [List.length_map]; omega
      have hl2 : (scs M).length ≤ 1000 := by unfold scs; rw [List.length_map]; omega
      have := txtS_inj (scs_oks h1) (scs_oks h2) hl1 hl2 h
      rw [← scs_back h1, ← scs_back h2, this]
    · intro h; rw [h]⟩
  replace cy := Box.mk cy
  replace cz := Box.mk cz
  replace cys := Box.mk cys
  replace czs := Box.mk czs
  replace hy := Box.mk hy
  replace hz := Box.mk hz
  replace hys := Box.mk hys
  replace hzs := Box.mk hzs
  have ge := rc_struct.2.2
  have hE0 : Ext W ((W.alloc (.cells #[.int .i64 (f 0), .int .i64 (f 1), .int .i64 (f 2), .int .i64 (f 3), .int .i64 (f 4), .int .i64 (f 5), .int .i64 (f 6), .int .i64 (f 7), .int .i64 (f 8), .int .i64 (f 9), .int .i64 (f 10), .int .i64 (f 11)] 24)).alloc (.cells #[.int .i64 (g 0), .int .i64 (g 1), .int .i64 (g 2), .int .i64 (g 3), .int .i64 (g 4), .int .i64 (g 5), .int .i64 (g 6), .int .i64 (g 7), .int .i64 (g 8), .int .i64 (g 9), .int .i64 (g 10), .int .i64 (g 11)] 24)) := Ext.alloc (Ext.alloc (Below.refl _ _) _) _
  have hF0 : RcAt W.heap.size f ((W.alloc (.cells #[.int .i64 (f 0), .int .i64 (f 1), .int .i64 (f 2), .int .i64 (f 3), .int .i64 (f 4), .int .i64 (f 5), .int .i64 (f 6), .int .i64 (f 7), .int .i64 (f 8), .int .i64 (f 9), .int .i64 (f 10), .int .i64 (f 11)] 24)).alloc (.cells #[.int .i64 (g 0), .int .i64 (g 1), .int .i64 (g 2), .int .i64 (g 3), .int .i64 (g 4), .int .i64 (g 5), .int .i64 (g 6), .int .i64 (g 7), .int .i64 (g 8), .int .i64 (g 9), .int .i64 (g 10), .int .i64 (g 11)] 24)) := Ext.blk (Ext.alloc (Below.refl _ _) _) (newblk _ _)
  have hG0 : RcAt (W.heap.size + 1) g ((W.alloc (.cells #[.int .i64 (f 0), .int .i64 (f 1), .int .i64 (f 2), .int .i64 (f 3), .int .i64 (f 4), .int .i64 (f 5), .int .i64 (f 6), .int .i64 (f 7), .int .i64 (f 8), .int .i64 (f 9), .int .i64 (f 10), .int .i64 (f 11)] 24)).alloc (.cells #[.int .i64 (g 0), .int .i64 (g 1), .int .i64 (g 2), .int .i64 (g 3), .int .i64 (g 4), .int .i64 (g 5), .int .i64 (g 6), .int .i64 (g 7), .int .i64 (g 8), .int .i64 (g 9), .int .i64 (g 10), .int .i64 (g 11)] 24)) := by
    have := newblk (W.alloc (.cells #[.int .i64 (f 0), .int .i64 (f 1), .int .i64 (f 2), .int .i64 (f 3), .int .i64 (f 4), .int .i64 (f 5), .int .i64 (f 6), .int .i64 (f 7), .int .i64 (f 8), .int .i64 (f 9), .int .i64 (f 10), .int .i64 (f 11)] 24)) (.cells #[.int .i64 (g 0), .int .i64 (g 1), .int .i64 (g 2), .int .i64 (g 3), .int .i64 (g 4), .int .i64 (g 5), .int .i64 (g 6), .int .i64 (g 7), .int .i64 (g 8), .int .i64 (g 9), .int .i64 (g 10), .int .i64 (g 11)] 24)
    rw [World.size_alloc] at this
    exact this
  replace hE0 := Box.mk hE0
  replace hF0 := Box.mk hF0
  replace hG0 := Box.mk hG0
  have d1 : decide ((20 : Int) < (L.length : Int)) = false := decide_eq_false (by omega)
  have d2 : decide (20 < L.length) = false := decide_eq_false (by omega)
  have d3 : decide ((20 : Int) < (M.length : Int)) = false := decide_eq_false (by omega)
  have d4 : decide (20 < M.length) = false := decide_eq_false (by omega)
  clear ht hf hg hCL hCM hC hE hl hL hM hR hl40 hcr
  obtain ⟨n, hn⟩ : ∃ n, n = L.length := ⟨_, rfl⟩
  obtain ⟨m, hm⟩ : ∃ m, m = M.length := ⟨_, rfl⟩
  obtain ⟨k, hk⟩ : ∃ k, k = R.length := ⟨_, rfl⟩
  rw [← hn] at d1 d2 cys cS cT hys ⊢
  rw [← hm] at d3 d4 czs cS hzs ⊢
  rw [← hk] at cl co h0 ⊢
  clear hn hm hk
  go_enter Tryz.func4, Tryz.ntmps4
  go_upto_region 1 with (fail)
  generalize hC2 : W.heap.size + 1 = C2 at hG0 ⊢
  generalize hC1 : W.heap.size = C1 at hF0 ⊢
  generalize (W.alloc (.cells #[.int .i64 (f 0), .int .i64 (f 1), .int .i64 (f 2), .int .i64 (f 3), .int .i64 (f 4), .int .i64 (f 5), .int .i64 (f 6), .int .i64 (f 7), .int .i64 (f 8), .int .i64 (f 9), .int .i64 (f 10), .int .i64 (f 11)] 24)).alloc (.cells #[.int .i64 (g 0), .int .i64 (g 1), .int .i64 (g 2), .int .i64 (g 3), .int .i64 (g 4), .int .i64 (g 5), .int .i64 (g 6), .int .i64 (g 7), .int .i64 (g 8), .int .i64 (g 9), .int .i64 (g 10), .int .i64 (g 11)] 24) = w0 at *
  clear hC1 hC2
  go_upto_if 46 with (first
    | (refine wpList_load_mid rfl 24 (.tmp 5) rfl C1 0 rfl [.int .i64 (f 0), .int .i64 (f 1), .int .i64 (f 2), .int .i64 (f 3), .int .i64 (f 4), .int .i64 (f 5), .int .i64 (f 6), .int .i64 (f 7), .int .i64 (f 8), .int .i64 (f 9), .int .i64 (f 10), .int .i64 (f 11)] dC (rc_range hF0.out) huC hdC infoRC ?_)
    | (refine wpList_load_mid rfl 24 (.tmp 6) rfl C2 0 rfl [.int .i64 (g 0), .int .i64 (g 1), .int .i64 (g 2), .int .i64 (g 3), .int .i64 (g 4), .int .i64 (g 5), .int .i64 (g 6), .int .i64 (g 7), .int .i64 (g 8), .int .i64 (g 9), .int .i64 (g 10), .int .i64 (g 11)] dC (rc_range hG0.out) huC hdC infoRC ?_)
    | (go_at_call 10; (with_reducible refine (cl.out _ hE0.out).mono ?_); rintro e w1 ⟨rfl, hb⟩; replace hE0 := Box.mk (Ext.trans' hE0.out hb); replace hF0 := Box.mk (RcAt.ext hF0.out hb); replace hG0 := Box.mk (RcAt.ext hG0.out hb); clear hb)
    | (go_at_call 6; (with_reducible refine (cy.out _ hE0.out).mono ?_); rintro e w2 ⟨rfl, hb⟩; replace hE0 := Box.mk (Ext.trans' hE0.out hb); replace hF0 := Box.mk (RcAt.ext hF0.out hb); replace hG0 := Box.mk (RcAt.ext hG0.out hb); clear hb)
    | (go_at_call 6; (with_reducible refine (cz.out _ hE0.out).mono ?_); rintro e w3 ⟨rfl, hb⟩; replace hE0 := Box.mk (Ext.trans' hE0.out hb); replace hF0 := Box.mk (RcAt.ext hF0.out hb); replace hG0 := Box.mk (RcAt.ext hG0.out hb); clear hb))
  go_cut [11, 12, 13, 14, 15, 16] from 47 to 71 (fun _ _ _ _ _ _ wx => Box (Ext W wx))
  case first =>
    obtain ⟨hok, rfl, hyt, cQ⟩ | rfl := hy.out
    · replace cQ := Box.mk cQ
      have qe := eqRL f f (fun _ _ => rfl)
      have hg2 : (gn = 0 ∧ (y.toList == z.toList) = eqB f g) ∨ gn = 2 := by
        obtain ⟨hok2, h2, hzt, -⟩ | h2 := hz.out
        · exact Or.inl ⟨h2, hyz.out hok hok2 hyt hzt⟩
        · exact Or.inr h2
      clear hok hyt hyz hy hz hys hzs hsyz cys czs cS cT cl co hG h0 cy cz ck
      have qb := eqRB f g
      generalize eqB f g = bb at *
      obtain ⟨rfl, hst⟩ | rfl := hg2
      · cases bb
        all_goals as_aux_lemma =>
          go_wp2_with (first
            | (go_at_call 8; (with_reducible refine (cQ.out _ hE0.out).mono ?_); rintro e w5 ⟨rfl, hb⟩; have hR5 := Box.mk (range_mk w5 f); have hE1 := Box.mk (Ext.alloc (Ext.trans' hE0.out hb) (.cells #[.int .i64 (f 0), .int .i64 (f 1), .int .i64 (f 2), .int .i64 (f 3), .int .i64 (f 4), .int .i64 (f 5), .int .i64 (f 6), .int .i64 (f 7), .int .i64 (f 8), .int .i64 (f 9), .int .i64 (f 10), .int .i64 (f 11)] 24)); have hF1 := Box.mk (RcAt.ext (RcAt.ext hF0.out hb) (Ext.alloc (Below.refl _ _) (.cells #[.int .i64 (f 0), .int .i64 (f 1), .int .i64 (f 2), .int .i64 (f 3), .int .i64 (f 4), .int .i64 (f 5), .int .i64 (f 6), .int .i64 (f 7), .int .i64 (f 8), .int .i64 (f 9), .int .i64 (f 10), .int .i64 (f 11)] 24))); have hG1 := Box.mk (RcAt.ext (RcAt.ext hG0.out hb) (Ext.alloc (Below.refl _ _) (.cells #[.int .i64 (f 0), .int .i64 (f 1), .int .i64 (f 2), .int .i64 (f 3), .int .i64 (f 4), .int .i64 (f 5), .int .i64 (f 6), .int .i64 (f 7), .int .i64 (f 8), .int .i64 (f 9), .int .i64 (f 10), .int .i64 (f 11)] 24))); clear hb)
            | (refine wpList_store_new rfl w5 24 (.tmp 15) (.tmp 50) rfl _ #[.int .i64 (f 0), .int .i64 (f 1), .int .i64 (f 2), .int .i64 (f 3), .int .i64 (f 4), .int .i64 (f 5), .int .i64 (f 6), .int .i64 (f 7), .int .i64 (f 8), .int .i64 (f 9), .int .i64 (f 10), .int .i64 (f 11)] rfl rfl infoRC rfl (oneRC f) ?_; have z0 := hF1.out.cell 0 (by omega); have z1 := hF1.out.cell 1 (by omega); have z2 := hF1.out.cell 2 (by omega); have z3 := hF1.out.cell 3 (by omega); have z4 := hF1.out.cell 4 (by omega); have z5 := hF1.out.cell 5 (by omega); have z6 := hF1.out.cell 6 (by omega); have z7 := hF1.out.cell 7 (by omega); have z8 := hF1.out.cell 8 (by omega); have z9 := hF1.out.cell 9 (by omega); have z10 := hF1.out.cell 10 (by omega); have z11 := hF1.out.cell 11 (by omega); have v0 := hG1.out.cell 0 (by omega); have v1 := hG1.out.cell 1 (by omega); have v2 := hG1.out.cell 2 (by omega); have v3 := hG1.out.cell 3 (by omega); have v4 := hG1.out.cell 4 (by omega); have v5 := hG1.out.cell 5 (by omega); have v6 := hG1.out.cell 6 (by omega); have v7 := hG1.out.cell 7 (by omega); have v8 := hG1.out.cell 8 (by omega); have v9 := hG1.out.cell 9 (by omega); have v10 := hG1.out.cell 10 (by omega); have v11 := hG1.out.cell 11 (by omega))
            | (refine wpList_load_mid rfl 24 (.tmp 15) rfl w5.heap.size 0 rfl [.int .i64 (f 0), .int .i64 (f 1), .int .i64 (f 2), .int .i64 (f 3), .int .i64 (f 4), .int .i64 (f 5), .int .i64 (f 6), .int .i64 (f 7), .int .i64 (f 8), .int .i64 (f 9), .int .i64 (f 10), .int .i64 (f 11)] dC (rc_range hR5.out) huC hdC infoRC ?_)
            | (refine wpList_load_mid rfl 24 (.tmp 5) rfl C1 0 rfl [.int .i64 (f 0), .int .i64 (f 1), .int .i64 (f 2), .int .i64 (f 3), .int .i64 (f 4), .int .i64 (f 5), .int .i64 (f 6), .int .i64 (f 7), .int .i64 (f 8), .int .i64 (f 9), .int .i64 (f 10), .int .i64 (f 11)] dC (rc_range hF1.out) huC hdC infoRC ?_))
          go_meet
          exact hE1
      · as_aux_lemma =>
        go_wp2_with (first
          | (go_at_call 8; (with_reducible refine (cQ.out _ hE0.out).mono ?_); rintro e w5 ⟨rfl, hb⟩; have hR5 := Box.mk (range_mk w5 f); have hE1 := Box.mk (Ext.alloc (Ext.trans' hE0.out hb) (.cells #[.int .i64 (f 0), .int .i64 (f 1), .int .i64 (f 2), .int .i64 (f 3), .int .i64 (f 4), .int .i64 (f 5), .int .i64 (f 6), .int .i64 (f 7), .int .i64 (f 8), .int .i64 (f 9), .int .i64 (f 10), .int .i64 (f 11)] 24)); have hF1 := Box.mk (RcAt.ext (RcAt.ext hF0.out hb) (Ext.alloc (Below.refl _ _) (.cells #[.int .i64 (f 0), .int .i64 (f 1), .int .i64 (f 2), .int .i64 (f 3), .int .i64 (f 4), .int .i64 (f 5), .int .i64 (f 6), .int .i64 (f 7), .int .i64 (f 8), .int .i64 (f 9), .int .i64 (f 10), .int .i64 (f 11)] 24))); clear hb)
          | (refine wpList_store_new rfl w5 24 (.tmp 15) (.tmp 50) rfl _ #[.int .i64 (f 0), .int .i64 (f 1), .int .i64 (f 2), .int .i64 (f 3), .int .i64 (f 4), .int .i64 (f 5), .int .i64 (f 6), .int .i64 (f 7), .int .i64 (f 8), .int .i64 (f 9), .int .i64 (f 10), .int .i64 (f 11)] rfl rfl infoRC rfl (oneRC f) ?_)
          | (refine wpList_load_mid rfl 24 (.tmp 15) rfl w5.heap.size 0 rfl [.int .i64 (f 0), .int .i64 (f 1), .int .i64 (f 2), .int .i64 (f 3), .int .i64 (f 4), .int .i64 (f 5), .int .i64 (f 6), .int .i64 (f 7), .int .i64 (f 8), .int .i64 (f 9), .int .i64 (f 10), .int .i64 (f 11)] dC (rc_range hR5.out) huC hdC infoRC ?_)
          | (refine wpList_load_mid rfl 24 (.tmp 5) rfl C1 0 rfl [.int .i64 (f 0), .int .i64 (f 1), .int .i64 (f 2), .int .i64 (f 3), .int .i64 (f 4), .int .i64 (f 5), .int .i64 (f 6), .int .i64 (f 7), .int .i64 (f 8), .int .i64 (f 9), .int .i64 (f 10), .int .i64 (f 11)] dC (rc_range hF1.out) huC hdC infoRC ?_))
        go_meet
        exact hE1
    · as_aux_lemma =>
      go_wp2
      go_meet
      exact hE0
  case rest =>
    clear hE0 hF0 hG0 cy cz hy hz hyz
    have hE0 := hcut
    clear hcut
    go_upto_if 83 with (first
      | (go_at_call 11; (with_reducible refine (cys.out _ hE0.out).mono ?_); rintro e w2 ⟨rfl, hb⟩; replace hE0 := Box.mk (Ext.trans' hE0.out hb); clear hb)
      | (go_at_call 11; (with_reducible refine (czs.out _ hE0.out).mono ?_); rintro e w3 ⟨rfl, hb⟩; replace hE0 := Box.mk (Ext.trans' hE0.out hb); clear hb))
    go_cut [11, 12, 13, 14, 17, 18, 19] from 84 to 114 (fun _ _ _ _ _ _ _ wx => Box (Ext W wx))
    case first =>
      obtain ⟨hA, rfl, hyt, cQ⟩ | rfl := hys.out
      · replace cQ := Box.mk cQ
        have hg2 : (gs = 0 ∧ ((ys.toList == zs.toList) = true ↔ L = M)) ∨ gs = 2 := by
          obtain ⟨hA2, h2, hzt, -⟩ | h2 := hzs.out
          · exact Or.inl ⟨h2, hsyz.out hA hA2 hyt hzt⟩
          · exact Or.inr h2
        clear hA hyt hys hzs hsyz cys czs cl co hG h0 ck
        obtain ⟨rfl, hst⟩ | rfl := hg2
        · have cS2 := Box.mk (cS.out (ys.toList == zs.toList) hst)
          clear cS hst
          generalize hbb : (ys.toList == zs.toList) = bb at *
          cases bb
          all_goals as_aux_lemma =>
            go_wp2_with (first
              | (go_at_call 12; (with_reducible refine (cQ.out _ hE0.out).mono ?_); rintro e w5 ⟨a5, c5, rfl, hr, hb⟩; replace hr := Box.mk hr; replace hE0 := Box.mk (Ext.trans' hE0.out hb); clear hb)
              | (go_at_call 13; (with_reducible refine (cT.out _ _ _ hr.out hE0.out).mono ?_); rintro e w6 ⟨rfl, hb⟩; replace hE0 := Box.mk (Ext.trans' hE0.out hb); clear hb hr)
              | (go_at_call 13; (with_reducible refine (cS2.out _ hE0.out).mono ?_); rintro e w7 ⟨rfl, hb⟩; replace hE0 := Box.mk (Ext.trans' hE0.out hb); clear hb))
            go_meet
            exact hE0
        · as_aux_lemma =>
          go_wp2_with (first
            | (go_at_call 12; (with_reducible refine (cQ.out _ hE0.out).mono ?_); rintro e w5 ⟨a5, c5, rfl, hr, hb⟩; replace hr := Box.mk hr; replace hE0 := Box.mk (Ext.trans' hE0.out hb); clear hb)
            | (go_at_call 13; (with_reducible refine (cT.out _ _ _ hr.out hE0.out).mono ?_); rintro e w6 ⟨rfl, hb⟩; replace hE0 := Box.mk (Ext.trans' hE0.out hb); clear hb hr))
          go_meet
          exact hE0
      · as_aux_lemma =>
        go_wp2
        go_meet
        exact hE0
    case rest =>
      clear hE0 cys czs hys hzs hsyz cS cT
      have hE0 := hcut
      have b1 : decide (q 3 ≤ q 2) = true := decide_eq_true hG
      have b2 : (q 0 == (k : Int)) = true := by rw [h0]; simp
      clear hcut h0 hG
      go_wp2_with (first
        | (go_at_call 14; (with_reducible refine (co.out _ hE0.out).mono ?_); rintro e w5 ⟨rfl, hb⟩; have hE1 := Box.mk (Ext.alloc (Ext.trans' hE0.out hb) (.cells #[.int .i64 (q 0), .int .i64 (q 1), .int .i64 (q 2), .int .i64 (q 3), .int .i64 (q 4), .int .i64 (q 5), .int .i64 (q 6), .int .i64 (q 7), .int .i64 (q 8), .int .i64 (q 9), .int .i64 (q 10), .int .i64 (q 11)] 24)); have c0 := (range_mk w5 q).cell 0 (by omega); have c2 := (range_mk w5 q).cell 2 (by omega); have c3 := (range_mk w5 q).cell 3 (by omega); clear hb)
        | (refine wpList_store_new rfl w5 24 (.tmp 20) (.tmp 118) rfl _ #[.int .i64 (q 0), .int .i64 (q 1), .int .i64 (q 2), .int .i64 (q 3), .int .i64 (q 4), .int .i64 (q 5), .int .i64 (q 6), .int .i64 (q 7), .int .i64 (q 8), .int .i64 (q 9), .int .i64 (q 10), .int .i64 (q 11)] rfl rfl infoRC rfl (oneRC q) ?_)
        | (go_at_call 5; (with_reducible refine (ck.out _ hE1.out).mono ?_); rintro e w9 ⟨rfl, hb⟩; replace hE1 := Box.mk (Ext.trans' hE1.out hb); clear hb))
      go_ret
      exact ⟨rfl, hE1.out⟩
theorem lawReportHolds_walk (v0 v1 v2 v3 v4 : Value) (W : World) (h0 : RcArg v0) (h1 : RcArg v1) (h2 : ∃ L, ScsArg W v2 L) (h3 : ∃ L, ScsArg W v3 L) (h4 : ∃ L, ResArg W v4 L) (ht : EnvV W) :
    Calls Tryz.prog 4 #[v0, v1, v2, v3, v4] W fun e W' => e = .returned (.bool true) ∧ Below W.heap.size W W' := by
  obtain ⟨f, rfl, hf⟩ := h0
  obtain ⟨g, rfl, hg⟩ := h1
  obtain ⟨L, a, c, rfl, hn, hc, hCL, -⟩ := h2
  obtain ⟨M, a', c', rfl, hn', hc', hCM, -⟩ := h3
  obtain ⟨R, r, cr, rfl, hR, hcr, hC, hE⟩ := h4
  by_cases h : 20 < L.length ∨ 20 < M.length ∨ ¬ LightP R 40
  · exact holds_far f g a c L a' c' M r cr R W hR hcr hC h ht
  · have h5 : LightP R 40 := Classical.byContradiction fun hn => h (Or.inr (Or.inr hn))
    exact holds_main f g hf hg a c L a' c' M r cr R W (by omega) (by omega) hR hcr h5 hCL hCM hC hE ht
end Go.Proofs.YtcofejbkbcdopaaGreatDoor
