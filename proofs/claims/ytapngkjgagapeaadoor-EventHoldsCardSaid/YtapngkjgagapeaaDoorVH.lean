import Derived.Test.YtapngkjgagapeaaDoorVQ
import Derived.Test.YtapngkjgagapeaaDoorVW
/- The walk of EventHolds. -/
namespace Go.Proofs.YtapngkjgagapeaaDoor
open Go.RowKit

theorem filt_snoc (M : List EvX) (k : Nat) (h : k < M.length) : (M.take (k + 1)).filter EvX.ok = (M.take k).filter EvX.ok ++ (if (M[k]).ok = true then [M[k]] else []) := by
  rw [List.take_succ_eq_append_getElem h, List.filter_append]
  congr 1
  by_cases e : (M[k]).ok = true
  · rw [if_pos e]; simp [e]
  · rw [if_neg e]; simp [e]
/-- The first loop: the valid events so far, and the stream that has them. -/
structure H1 (W wr : World) (S : Nat) (F : List EvX) (fv : Value) (L : List Nd) (cs : Nat → Nat) : Prop where
  row : wr.ownsRow W.heap.size 28 6 fv F.length (xs F)
  st : Strm wr S L cs L.length
  ow : OwnL W.heap.size wr L
  eq : L.map (·.v) = F.map EvX.evt
  tot : tot cs 5 = F.length
  le : ∀ j, cs j ≤ F.length
  ext : Ext W wr
theorem H1.ext' {W wr w' : World} {S : Nat} {F : List EvX} {fv : Value} {L : List Nd} {cs : Nat → Nat} (h : H1 W wr S F fv L cs) (hb : Ext wr w') : H1 W w' S F fv L cs :=
  ⟨ownsRow_ext hb h.row, h.st.ext hb, fun m hm => ⟨(h.ow m hm).1.ext hb, (h.ow m hm).2⟩, h.eq, h.tot, h.le, Ext.trans' h.ext hb⟩
theorem H1.len {W wr : World} {S : Nat} {F : List EvX} {fv : Value} {L : List Nd} {cs : Nat → Nat} (h : H1 W wr S F fv L cs) : L.length = F.length := by
  have := congrArg List.length h.eq
  simpa using this
/-- behind the append: the row is longer than the stream by one -/
structure H2 (W wr : World) (S : Nat) (F : List EvX) (x : EvX) (fv : Value) (L : List Nd) (cs : Nat → Nat) : Prop where
  row : wr.ownsRow W.heap.size 28 6 fv (F.length + 1) (xs (F ++ [x]))
  st : Strm wr S L cs L.length
  ow : OwnL W.heap.size wr L
  eq : L.map (·.v) = F.map EvX.evt
  tot : tot cs 5 = F.length
  le : ∀ j, cs j ≤ F.length
  ext : Ext W wr
theorem H1.push {W w0 w' : World} {S : Nat} {F : List EvX} {fv fv' : Value} {L : List Nd} {cs : Nat → Nat} (h : H1 W w0 S F fv L cs) (x : EvX) (hr : w'.ownsRow W.heap.size 28 6 fv' (F.length + 1) (xs F ++ xC x)) (hg : w0.grownBy w' fv.ownBlock) (hb : Below W.heap.size w0 w') : H2 W w' S F x fv' L cs := by
  have hk := Keep.row h.row hg
  exact ⟨by rw [xs_app]; simpa [xs] using hr, h.st.keepT h.ow hk tE_st tE_nd tE_u8, h.ow.keep hk tE_u8, h.eq, h.tot, h.le, Below.trans h.ext hb⟩
theorem H2.ext' {W wr w' : World} {S : Nat} {F : List EvX} {x : EvX} {fv : Value} {L : List Nd} {cs : Nat → Nat} (h : H2 W wr S F x fv L cs) (hb : Ext wr w') : H2 W w' S F x fv L cs :=
  ⟨ownsRow_ext hb h.row, h.st.ext hb, fun m hm => ⟨(h.ow m hm).1.ext hb, (h.ow m hm).2⟩, h.eq, h.tot, h.le, Ext.trans' h.ext hb⟩
theorem H2.add {W w w' : World} {S : Nat} {F : List EvX} {x : EvX} {fv : Value} {L : List Nd} {cs : Nat → Nat} {m : Nd} (h : H2 W w S F x fv L cs) (hS : W.heap.size ≤ S) (hok : x.ok = true) (hin : x.In) (hm : m.v = x.evt) (h1 : Strm w' S (L ++ [m]) (bump cs x.evt.kind) (L.length + 1)) (h2 : OwnB w.heap.size w' m.u m.v.e.val) (h3 : Mut (Own S L) w w') : H1 W w' S (F ++ [x]) fv (L ++ [m]) (bump cs x.evt.kind) := by
  have hk := Keep.strm h.st h3
  have hlen : L.length = F.length := by have := congrArg List.length h.eq; simpa using this
  obtain ⟨k1, k5, _⟩ := Evt.fine_k (Good.of_x hok hin).1
  refine ⟨by rw [List.length_append]; exact ownsRow_keep hk h.row tS_ev, by rw [List.length_append]; exact h1, (h.ow.keep hk tS_u8).app (h2.mono h.ext.size) (by rw [hm]; exact Good.of_x hok hin), by rw [List.map_append, List.map_append, h.eq]; simp [hm], ?_, ?_, h3.ext W h.ext (Own.ge h.st hS)⟩
  · rw [tot_bump _ _ _ k1, if_pos k5, h.tot, List.length_append]; rfl
  · intro j
    have := h.le j
    rw [List.length_append]
    unfold bump
    simp only [List.length_cons, List.length_nil]
    split <;> omega
theorem evs_app (L M : List Nd) : evs (L ++ M) = evs L ++ evs M := List.flatMap_append
/-- The second loop: t events have been taken, into one list. -/
structure H3 (W wr : World) (S : Nat) (F : List EvX) (fv ov : Value) (L : List Nd) (cs : Nat → Nat) (t : Nat) : Prop where
  row : wr.ownsRow W.heap.size 28 6 fv F.length (xs F)
  out : wr.ownsRow W.heap.size 28 6 ov t (evs (L.take t))
  st : Strm wr S (L.drop t) cs (L.drop t).length
  ow : OwnL W.heap.size wr L
  eq : L.map (·.v) = F.map EvX.evt
  tot : tot cs 5 = F.length
  tl : t ≤ L.length
  ne : ∀ g, fv.ownBlock = some g → ov.ownBlock ≠ some g
  ext : Ext W wr
theorem H1.h3 {W wr : World} {S : Nat} {F : List EvX} {fv : Value} {L : List Nd} {cs : Nat → Nat} (h : H1 W wr S F fv L cs) : H3 W wr S F fv (.slice none 0 0) L cs 0 :=
  ⟨h.row, World.ownsRow_nil _ _ _ _, h.st, h.ow, h.eq, h.tot, Nat.zero_le _, (fun g _ e => by cases e), h.ext⟩
theorem H3.ext' {W wr w' : World} {S : Nat} {F : List EvX} {fv ov : Value} {L : List Nd} {cs : Nat → Nat} {t : Nat} (h : H3 W wr S F fv ov L cs t) (hb : Ext wr w') : H3 W w' S F fv ov L cs t :=
  ⟨ownsRow_ext hb h.row, ownsRow_ext hb h.out, h.st.ext hb, fun m hm => ⟨(h.ow m hm).1.ext hb, (h.ow m hm).2⟩, h.eq, h.tot, h.tl, h.ne, Ext.trans' h.ext hb⟩
theorem ownsRow_grow {w w' : World} {base : Nat} {e : TypeId} {size : Nat} {v : Value} {n : Nat} {xs : List Value} {row : Option Nat} (h : w.ownsRow base e size v n xs) (hg : w.grownBy w' row) (hne : ∀ g, v.ownBlock = some g → row ≠ some g) : w'.ownsRow base e size v n xs := by
  refine ⟨h.1, ?_⟩
  rcases h.2 with h2 | ⟨g, cap, cur, hv, hb1, hb, r⟩
  · exact Or.inl h2
  · exact Or.inr ⟨g, cap, cur, hv, hb1, (hg.block g (Array.getElem?_eq_some_iff.1 hb).1 (fun e => hne g (by rw [hv]; rfl) e.symm)).trans hb, r⟩
theorem row_cells {w : World} {base : Nat} {e : TypeId} {size : Nat} {a : Option Addr} {n m c : Nat} {xs : List Value} (h : w.ownsRow base e size (.slice a m c) n xs) : ∀ x, a = some x → ∀ j u, xs[j]? = some u → w.cell? (x.add j) = some u := by
  intro x hx j u hj
  subst hx
  rcases h.2 with ⟨h0, _⟩ | ⟨g, cap, cur, hv, _⟩
  · cases h0
  · have hh := h.cells (g := g) (by rw [hv]; rfl) j u hj
    cases hv
    exact hh
theorem row_nil {w : World} {base : Nat} {e : TypeId} {size : Nat} {a : Option Addr} {n m c : Nat} {xs : List Value} (h : w.ownsRow base e size (.slice a m c) n xs) : a = none → m = 0 ∧ c = 0 := by
  intro ha
  subst ha
  rcases h.2 with ⟨h0, _⟩ | ⟨g, cap, cur, hv, _⟩
  · cases h0; exact ⟨rfl, rfl⟩
  · cases hv
theorem evs_one (L : List Nd) (h : ∀ m ∈ L, ∃ p q, m.u = .slice p m.v.e.val.length q) : ∀ u ∈ evs L, u.oneCell' = true := by
  intro u hu
  unfold evs at hu
  obtain ⟨m, hm, hu⟩ := List.mem_flatMap.1 hu
  obtain ⟨p, q, e⟩ := h m hm
  unfold evC at hu
  rw [e] at hu
  simp only [List.mem_cons, List.not_mem_nil, or_false] at hu
  rcases hu with rfl | rfl | rfl | rfl | rfl | rfl <;> rfl
theorem xs_one (L : List EvX) (h : ∀ m ∈ L, ∃ p q, m.u = .slice p m.l.length q) : ∀ u ∈ xs L, u.oneCell' = true := by
  intro u hu
  unfold xs at hu
  obtain ⟨m, hm, hu⟩ := List.mem_flatMap.1 hu
  obtain ⟨p, q, e⟩ := h m hm
  unfold xC at hu
  rw [e] at hu
  simp only [List.mem_cons, List.not_mem_nil, or_false] at hu
  rcases hu with rfl | rfl | rfl | rfl | rfl | rfl <;> rfl
theorem OwnL.shape {B : Nat} {w : World} {L : List Nd} (h : OwnL B w L) : ∀ m ∈ L, ∃ p q, m.u = .slice p m.v.e.val.length q := fun m hm => (h m hm).1.shape
/-- Take and the append of what was taken. -/
theorem H3.take {W wr : World} {S : Nat} {F : List EvX} {fv ov : Value} {L : List Nd} {cs : Nat → Nat} {t : Nat} (h : H3 W wr S F fv ov L cs t) (hS : W.heap.size ≤ S) (hL : L.length ≤ 20) (most : Nat) (hm : most ≤ 9223372036854775807) :
    Calls Tryd.prog 19 #[.pointer (some ⟨S, 0, none⟩), .int .i64 most] wr fun e w' => ∃ a m c, m ≤ most ∧ m ≤ 20 ∧ e = .returned (.tuple #[.slice a m c, .int .i64 0]) ∧ Ext W w' ∧ ∃ (ov' : Value) (w2 : World), (Builtin.append_ #[41, 41] 41 #[ov, .slice a m c]).run Tryd.prog w' = .ok ov' w2 ∧ Box (H3 W w2 S F fv ov' L cs (t + m)) := by
  obtain ⟨i0, hi, hz0, hz1, hz2⟩ := info_parts infoEvt
  have htl := h.tl
  refine (take_any S (L.drop t) cs most wr h.st (by rw [List.length_drop]; omega) hm).mono ?_
  rintro e w' ⟨v, g1, g2, g3, g4⟩
  generalize hmin : min most (L.drop t).length = m at *
  rw [List.length_drop] at hmin
  rw [List.drop_drop] at g3
  obtain ⟨a, c, rfl⟩ := row_shape g2
  have hk := Keep.strm1 h.st g4
  have hout' := ownsRow_keep hk h.out tS_ev
  have hE := g4.ext W h.ext (fun x hx => by omega)
  have how := h.ow.keep hk tS_u8
  obtain ⟨ov', w2, q1, q2, q3, q4⟩ := app_run w' W.heap.size 41 41 28 i0 _ 6 72 Tryd.underlying41 hi hz0 hz1 hz2 rfl (by decide) ov t (evs (L.take t)) hout' a m c (evs ((L.drop t).take m)) (row_nil g2) (by rw [evs_len, List.length_take, List.length_drop]; omega) (row_cells g2) (evs_one _ fun x hx => how.shape x (List.mem_of_mem_drop (List.mem_of_mem_take hx))) (by unfold maxLen; omega) (by omega) hE.size
  have hk2 := Keep.row hout' q3
  have hrow' := ownsRow_keep hk h.row tS_ev
  have hst' : Strm w' S (L.drop (t + m)) cs (L.drop (t + m)).length := by
    rw [List.length_drop]
    rw [List.length_drop] at g3
    rw [show L.length - (t + m) = L.length - t - m by omega]
    exact g3
  have hE2 : Below W.heap.size w' w2 := (Below.refl _ w').grown q3 hE.size (fun k hk => (hout'.lt k hk).1)
  refine ⟨a, m, c, by omega, by omega, g1, hE, ov', w2, q1, ⟨?_⟩⟩
  refine ⟨?_, ?_, hst'.keepT (how.drop _) hk2 tE_st tE_nd tE_u8, how.keep hk2 tE_u8, h.eq, h.tot, by omega, ?_, Below.trans hE hE2⟩
  · exact ownsRow_grow hrow' q3 h.ne
  · rw [show L.take (t + m) = L.take t ++ (L.drop t).take m from List.take_add, evs_app]
    exact q2
  · intro g hg
    rcases q4 with q4 | q4
    · rw [q4]; exact h.ne g hg
    · rw [q4]
      intro e
      obtain ⟨cs9, h9⟩ := row_block hrow' g hg
      have := blk_lt h9
      cases e
      omega
/-- List, the append of what it returns, and the comparison. -/
theorem H3.list {W wr : World} {S : Nat} {F : List EvX} {fv ov : Value} {L : List Nd} {cs : Nat → Nat} {t : Nat} (h : H3 W wr S F fv ov L cs t) (hL : L.length ≤ 20) (hF : ∀ x ∈ F, x.At W ∧ x.ok = true) (hfl : F.length ≤ 20) :
    Calls Tryd.prog 35 #[.pointer (some ⟨S, 0, none⟩)] wr fun e w' => ∃ a m c, e = .returned (.slice a m c) ∧ ∃ (ov' : Value) (w2 : World), (Builtin.append_ #[41, 41] 41 #[ov, .slice a m c]).run Tryd.prog w' = .ok ov' w2 ∧ Box (Ext W w2) ∧ Box (Calls Tryd.prog 34 #[ov', fv] w2 fun e w3 => e = .returned (.bool true) ∧ Ext w2 w3) := by
  obtain ⟨i0, hi, hz0, hz1, hz2⟩ := info_parts infoEvt
  have htl := h.tl
  refine (list_any S (L.drop t) cs wr h.st (by rw [List.length_drop]; omega) (fun m hm => (h.ow m (List.mem_of_mem_drop hm)).2)).mono ?_
  rintro e w' ⟨v, X, rfl, g2, g3, g4, g5⟩
  obtain ⟨a, c, rfl⟩ := row_shape g2
  have h' := h.ext' g5
  have hXl : X.length = (L.drop t).length := by have := congrArg List.length g3; simpa using this
  rw [← hXl] at g2
  have hXl' := hXl
  rw [List.length_drop] at hXl'
  obtain ⟨ov', w2, q1, q2, q3, q4⟩ := app_run w' W.heap.size 41 41 28 i0 _ 6 72 Tryd.underlying41 hi hz0 hz1 hz2 rfl (by decide) ov t (evs (L.take t)) h'.out a X.length c (xs X) (row_nil g2) (by rw [xs_len]; omega) (row_cells g2) (xs_one _ fun x hx => (g4 x hx).2.2.shape) (by unfold maxLen; omega) (by omega) h'.ext.size
  rw [← hXl]
  refine ⟨a, X.length, c, rfl, ov', w2, q1, ?_⟩
  have hk2 := Keep.row h'.out q3
  have hE2 : Ext W w2 := Below.trans h'.ext ((Below.refl _ w').grown q3 h'.ext.size (fun k hk => (h'.out.lt k hk).1))
  refine ⟨⟨hE2⟩, ⟨?_⟩⟩
  have hrow2 := ownsRow_grow h'.row q3 h'.ne
  have hzl : ((L.take t).map Nd.x ++ X).length = t + X.length := by rw [List.length_append, List.length_map, List.length_take]; omega
  have how := h'.ow.keep hk2 tE_u8
  have hat : ∀ x ∈ (L.take t).map Nd.x ++ X, x.At w2 ∧ x.ok = true := fun x hx => by
    rcases List.mem_append.1 hx with hx | hx
    · obtain ⟨m, hm, rfl⟩ := List.mem_map.1 hx
      obtain ⟨k1, k2⟩ := how m (List.mem_of_mem_take hm)
      obtain ⟨k3, k4⟩ := Nd.x_ok k2
      exact ⟨⟨k3, k1.shape, k1.by (by have := k2.len; omega)⟩, k4⟩
    · obtain ⟨k1, k2, k3⟩ := g4 x hx
      have k4 := k3.keep hk2 tE_u8
      exact ⟨⟨k1, k4.shape, k4.by (by have := k1.l; omega)⟩, k2⟩
  refine sameX_any ov' fv ((L.take t).map Nd.x ++ X) F w2 (Xs.of_row (by rw [hzl, xs_app, ← evs_xs]; exact q2) (by rw [hzl]; omega) (fun x hx => (hat x hx).1)) (Xs.of_row hrow2 (by omega) (fun x hx => ((hF x hx).1).ext hE2)) (cores (fun x hx => ⟨(hat x hx).1.1, (hat x hx).2⟩) (fun x hx => ⟨(hF x hx).1.1, (hF x hx).2⟩) ?_)
  rw [List.map_append, nds_evt, g3, ← List.map_append, List.take_append_drop]
  exact h.eq
theorem tot_le (cs : Nat → Nat) (a b : Nat) (h : a ≤ b) : tot cs a ≤ tot cs b := by
  induction b with
  | zero => obtain rfl : a = 0 := by omega
            exact Nat.le_refl _
  | succ b ih =>
    by_cases e : a = b + 1
    · subst e; exact Nat.le_refl _
    · exact Nat.le_trans (ih (by omega)) (Nat.le_add_right _ _)
set_option maxRecDepth 100000 in
set_option maxHeartbeats 16000000 in
theorem holds_few (v sv : Value) (L : List EvI) (M : List EvX) (W : World) (hL : EvsArg W v L) (hM : Xs W v M) (hM20 : M.length ≤ 20) (hz : fewZ L 20 = true) (hsv : IntsArg .u8 W sv) (ht : EnvV W) :
    Calls Tryd.prog 10 #[v, sv] W fun e W' => e = .returned (.bool true) ∧ Below W.heap.size W W' := by
  have ck : Box (∀ w, Ext W w → Calls Tryd.prog 11 #[] w fun e w' => e = .returned (.bool true) ∧ Ext w w') := ⟨fun w h => known_any w (ht.ext h)⟩
  have hx : Ext W W := Below.refl _ _
  obtain ⟨i0, hi, hz0, hz1, hz2⟩ := info_parts infoEvt
  have cf : Box (Calls Tryd.prog 29 #[v, .int .i64 20] W fun e w' => e = .returned (.bool true) ∧ Ext W w') := ⟨by have h := few_any v L 20 W W hL (by decide) hx; rw [hz] at h; exact h⟩
  have HT := Box.mk ht
  have HX := Box.mk hM
  obtain ⟨sa, sn, sc, zs, rfl, hzl, hsn, hsc, hwz, hscells⟩ := hsv
  have HSC := Box.mk hscells; have HWZ := Box.mk hwz; have HZL := Box.mk hzl
  obtain ⟨a, c, hva, _, hcap, _, hAt⟩ := hM
  generalize hn : M.length = n at *
  have HNL := Box.mk hn
  subst hva
  have cN : Box (∀ w, Ext W w → Calls Tryd.prog 16 #[] w fun e w' => ∃ S, e = .returned (.pointer (some ⟨S, 0, none⟩)) ∧ Box (W.heap.size ≤ S ∧ H1 W w' S [] (.slice none 0 0) [] (fun _ => 0))) := ⟨fun w h => (new_any w).mono fun e w' ⟨h1, h2, h3⟩ => ⟨_, h1, ⟨h.size, World.ownsRow_nil _ _ _ _, h2, (fun m hm => by cases hm), rfl, rfl, fun _ => Nat.le_refl _, Ext.trans' h h3⟩⟩⟩
  clear ht hn hz hAt hL hscells hwz hzl
  go_enter Tryd.func10, Tryd.ntmps10
  go_wp2_with (first
    | (go_at_call 29; (with_reducible refine (cf.out).mono ?_); rintro e w1 ⟨rfl, hb⟩; have hx := Ext.trans' hx hb)
    | (go_at_call 16; (with_reducible refine (cN.out _ hx).mono ?_); rintro e w1 ⟨S, rfl, hS⟩))
  have hS0 := Box.mk hS.out.1
  have HH := Box.mk hS.out.2
  clear hS hx cf cN
  go_loopw [5, 7] (fun fv iv wr => ∃ k : Nat, k ≤ n ∧ iv = .int .i64 k ∧ ∃ L cs, Box (H1 W wr S ((M.take k).filter EvX.ok) fv L cs)) (fun _ i _ => n - (intOf i).toNat)
  case atStart => exact ⟨0, by omega, rfl, _, _, HH⟩
  case round =>
    obtain ⟨k, hk, rfl, L1, cs, hH⟩ := hrel
    obtain ⟨fa, fc, hfv⟩ := row_shape hH.out.row
    subst hfv
    by_cases hkn : k < n
    · have hkM : k < M.length := by rw [HNL.out]; exact hkn
      have hxx := HX.out
      rw [← HNL.out] at hxx
      obtain ⟨bb, o, x1, y1, c9, hva, p0, p1, p2, p3, p4, p5, hin, hby, hu⟩ := xrow_cells W wr M _ hxx k hkM hH.out.ext
      cases hva
      have d1 : decide ((k : Int) < (n : Int)) = true := decide_eq_true (by omega)
      have d2 : decide (k < n) = true := decide_eq_true hkn
      have hfs := filt_snoc M k hkM
      have hF20 : ((M.take k).filter EvX.ok).length ≤ 20 := by
        have h1 := List.length_filter_le EvX.ok (M.take k)
        rw [List.length_take] at h1
        omega
      have cv := Box.mk (fun w => rvalid_x M[k] x1 y1 hin w)
      cases hok : (M[k]).ok with
      | false =>
        rw [hok] at hfs cv
        rw [if_neg (by decide), List.append_nil] at hfs
        have HFS := Box.mk hfs
        have hxr : Ext wr wr := Below.refl _ _
        clear hin hby hu hxx hok hfs
        generalize M[k] = x at *
        go_wp2_with (first
          | (go_at_call 24; (with_reducible refine (cv.out _).mono ?_); rintro e w2 ⟨rfl, hb⟩; have hxr := Ext.trans' hxr hb))
        have hE2 := Box.mk (hH.out.ext' hxr)
        go_roundw
        case rel => exact ⟨k + 1, by omega, by go_num, L1, cs, by rw [HFS.out]; exact hE2⟩
        case measure => simp [intOf]; omega
      | true =>
        rw [hok] at cv
        rw [if_pos hok] at hfs
        have HFS := Box.mk hfs
        have HC : Box (∀ w', Ext wr w' → w'.cell? ⟨bb, o + k * 6, none⟩ = some (.int .i64 (M[k]).k) ∧ w'.cell? ⟨bb, o + k * 6 + 1, none⟩ = some (.string (M[k]).s) ∧ w'.cell? ⟨bb, o + k * 6 + 2, none⟩ = some (.slice x1 (M[k]).l.length y1) ∧ w'.cell? ⟨bb, o + k * 6 + 3, none⟩ = some (.int .u64 (M[k]).b) ∧ w'.cell? ⟨bb, o + k * 6 + 4, none⟩ = some (.int .u64 (M[k]).d) ∧ w'.cell? ⟨bb, o + k * 6 + 5, none⟩ = some (.int .u64 (M[k]).t)) := ⟨fun w' h => ⟨Ext.cell h p0, Ext.cell h p1, Ext.cell h p2, Ext.cell h p3, Ext.cell h p4, Ext.cell h p5⟩⟩
        have HCW : Box (∀ w', Ext W w' → w'.cell? ⟨bb, o + k * 6, none⟩ = some (.int .i64 (M[k]).k) ∧ w'.cell? ⟨bb, o + k * 6 + 1, none⟩ = some (.string (M[k]).s) ∧ w'.cell? ⟨bb, o + k * 6 + 2, none⟩ = some (.slice x1 (M[k]).l.length y1) ∧ w'.cell? ⟨bb, o + k * 6 + 3, none⟩ = some (.int .u64 (M[k]).b) ∧ w'.cell? ⟨bb, o + k * 6 + 4, none⟩ = some (.int .u64 (M[k]).d) ∧ w'.cell? ⟨bb, o + k * 6 + 5, none⟩ = some (.int .u64 (M[k]).t)) := ⟨fun w' h => by
          obtain ⟨bb', o', x1', y1', c9', hva', q0, q1, q2, q3, q4, q5, _, _, hu'⟩ := xrow_cells W w' M _ hxx k hkM h
          cases hva'
          rw [hu] at hu'
          cases hu'
          exact ⟨q0, q1, q2, q3, q4, q5⟩⟩
        have HBY : Box (∀ w', Ext W w' → By w' (.slice x1 (M[k]).l.length y1) (M[k]).l) := ⟨fun w' h => by
          obtain ⟨bb', o', x1', y1', c9', hva', q0, q1, q2, q3, q4, q5, _, hb', hu'⟩ := xrow_cells W w' M _ hxx k hkM h
          rw [hu] at hu'
          cases hu'
          exact hb'⟩
        have HIN := Box.mk hin; have HOK := Box.mk hok
        have hxr : Ext wr wr := Below.refl _ _
        generalize hFk : (M.take k).filter EvX.ok = F at *
        have cA : Box (∀ w' fv', H2 W w' S F M[k] fv' L1 cs → Calls Tryd.prog 17 #[.pointer (some ⟨S, 0, none⟩), .agg #[.int .i64 (M[k]).k, .string (M[k]).s, .slice x1 (M[k]).l.length y1, .int .u64 (M[k]).b, .int .u64 (M[k]).d, .int .u64 (M[k]).t]] w' fun e w'' => e = .returned (.int .i64 0) ∧ ∃ m : Nd, Box (H1 W w'' S (F ++ [M[k]]) fv' (L1 ++ [m]) (bump cs (M[k]).evt.kind))) := ⟨fun w' fv' h => by
          have hlen : L1.length = F.length := hH.out.len
          refine (Add_x S L1 cs L1.length M[k] x1 y1 w' h.st (by omega) (fun j => by have := h.le j; omega) HOK.out HIN.out (HBY.out _ h.ext)).mono ?_
          rintro e w'' ⟨g1, m, g2, g3, g4, g5⟩
          exact ⟨g1, m, ⟨h.add hS0.out HOK.out HIN.out g2 g3 g4 g5⟩⟩⟩
        have hxc : Box (xC M[k] = [.int .i64 (M[k]).k, .string (M[k]).s, .slice x1 (M[k]).l.length y1, .int .u64 (M[k]).b, .int .u64 (M[k]).d, .int .u64 (M[k]).t]) := ⟨by unfold xC; rw [hu]⟩
        clear hin hby hu hxx hok hfs hFk
        generalize M[k] = x at *
        generalize hFl : F.length = fl at *
        have HFL := Box.mk hFl
        clear hFl
        have hbyte : (fl + 1) * 72 ≤ 140737488355328 := by omega
        go_wp2_with (first
          | (go_at_call 24; (with_reducible refine (cv.out _).mono ?_); rintro e w2 ⟨rfl, hb⟩; have hxr := Ext.trans' hxr hb; have hHx := Box.mk (hH.out.ext' hxr); clear p0 p1 p2 p3 p4 p5; obtain ⟨p0, p1, p2, p3, p4, p5⟩ := HC.out _ hxr; have hown2 := hHx.out.row; rw [HFL.out] at hown2; have hzz := hHx.out.ext.size; clear hb hxr)
          | (at_builtin; refine wpList_push rfl _ _ 41 rfl W.heap.size 28 i0 _ 6 72 Tryd.underlying41 hi hz0 hz1 hz2 rfl (by decide) _ _ _ rfl hown2 [.int .i64 x.k, .string x.s, .slice x1 x.l.length y1, .int .u64 x.b, .int .u64 x.d, .int .u64 x.t] rfl rfl (by simp [Value.oneCell']) (by omega) hbyte hzz ?_; intro v1 w3 hown3 hg3 hbel3 hs3; rw [← hxc.out, ← HFL.out] at hown3; have hH2 := Box.mk (hHx.out.push x hown3 hg3 hbel3); clear p0 p1 p2 p3 p4 p5; obtain ⟨p0, p1, p2, p3, p4, p5⟩ := HCW.out _ hH2.out.ext; clear hown3 hg3 hbel3)
          | (go_at_call 17; (with_reducible refine (cA.out _ _ hH2.out).mono ?_); rintro e w4 ⟨rfl, m4, hH4⟩))
        go_roundw
        case rel => exact ⟨k + 1, by omega, by go_num, _, _, by rw [HFS.out]; exact hH4⟩
        case measure => simp [intOf]; omega
    · obtain rfl : k = n := by omega
      have d1 : decide ((k : Int) < (k : Int)) = false := decide_eq_false (by omega)
      have d2 : decide (k < k) = false := decide_eq_false (by omega)
      have htk : M.take k = M := by rw [← HNL.out]; exact List.take_length
      rw [htk] at hH ⊢
      have hat : ∀ x ∈ M, x.At W := by obtain ⟨_, _, _, _, _, _, h9⟩ := HX.out; exact h9
      have hF : ∀ x ∈ M.filter EvX.ok, x.At W ∧ x.ok = true := fun x hx => by
        obtain ⟨h1, h2⟩ := List.mem_filter.1 hx
        exact ⟨hat x h1, h2⟩
      have hFlen : (M.filter EvX.ok).length ≤ 20 := by
        have h1 := List.length_filter_le EvX.ok M
        have := HNL.out
        omega
      generalize M.filter EvX.ok = F at *
      have hl1 : L1.length = F.length := hH.out.len
      have HF := Box.mk hF
      have HFl := Box.mk hFlen
      have hallF : allOk F = true := by
        unfold allOk; rw [List.all_eq_true]; exact fun x hx => (hF x hx).2
      have hgood : ∀ v ∈ F.map EvX.evt, v.In ∧ v.fine = true := fun v hv => by
        obtain ⟨x, hx, rfl⟩ := List.mem_map.1 hv
        obtain ⟨g1, g2⟩ := hF x hx
        exact ⟨(evt_of_ok g2 g1.1).2.1, (evt_of_ok g2 g1.1).1⟩
      have hXF : ∀ w' v, w'.ownsRow W.heap.size 28 6 v F.length (xs F) → Ext W w' → Xs w' v F := fun w' v h1 h2 => Xs.of_row h1 (by omega) (fun x hx => ((hF x hx).1).ext h2)
      have HXF := Box.mk hXF
      have hL1 : Box (F.length = L1.length) := ⟨hl1.symm⟩
      generalize hfl : F.length = fl at *
      have HFL := Box.mk hfl
      have cW : Box (∀ w', Ext wr w' → Calls Tryd.prog 30 #[.slice fa fl fc] w' fun e w'' => e = .returned (.tuple #[.string (bs (textX F)), .int .i64 0]) ∧ Ext w' w'') := ⟨fun w' h => by
        have hrow := (hH.out.ext' h).row
        rw [hfl] at hrow
        refine (write_any _ F w' (hXF w' _ hrow (Ext.trans' hH.out.ext h)) (HT.out.ext (Ext.trans' hH.out.ext h))).mono fun e w'' hp => ?_
        unfold WPost at hp
        rw [hallF, if_pos rfl, if_pos (by omega)] at hp
        exact hp⟩
      have cR : Box (∀ w', Ext wr w' → Calls Tryd.prog 31 #[.string (bs (textX F))] w' fun e w'' => ∃ a2 c2 L2, e = .returned (.tuple #[.slice a2 fl c2, .int .i64 0, .int .i64 0]) ∧ Box (Xs w'' (.slice a2 fl c2) L2 ∧ L2.map EvX.evt = F.map EvX.evt ∧ (∀ x ∈ L2, x.ok = true)) ∧ Ext w' w'') := ⟨fun w' h => by
        rw [textX_E]
        refine (read_any (F.map EvX.evt) w' (by rw [List.length_map]; omega) hgood (HT.out.ext (Ext.trans' hH.out.ext h))).mono fun e w'' hp => ?_
        obtain ⟨v, L2, h1, h2, h3, h4, h5⟩ := hp
        have hN : L2.length = fl := by
          have := congrArg List.length h3
          simp only [List.length_map] at this
          omega
        obtain ⟨a2, c2, rfl, h2'⟩ := h2
        rw [hN] at h1
        exact ⟨a2, c2, L2, h1, ⟨⟨a2, c2, by rw [hN], h2'⟩, h3, h4⟩, h5⟩⟩
      have cW2 : Box (∀ w' a2 c2 L2, Ext wr w' → Xs w' (.slice a2 fl c2) L2 → L2.map EvX.evt = F.map EvX.evt → (∀ x ∈ L2, x.ok = true) → Calls Tryd.prog 30 #[.slice a2 fl c2] w' fun e w'' => e = .returned (.tuple #[.string (bs (textX F)), .int .i64 0]) ∧ Ext w' w'') := ⟨fun w' a2 c2 L2 h h2 h3 h4 => by
        refine (write_any _ L2 w' h2 (HT.out.ext (Ext.trans' hH.out.ext h))).mono fun e w'' hp => ?_
        unfold WPost at hp
        have hN : L2.length = fl := by
          have := congrArg List.length h3
          simp only [List.length_map] at this
          omega
        rw [show allOk L2 = true from by unfold allOk; rw [List.all_eq_true]; exact h4, if_pos rfl, if_pos (by omega), textX_E, h3, ← textX_E] at hp
        exact hp⟩
      have cS : Box (∀ w' a2 c2 L2, Ext wr w' → Xs w' (.slice a2 fl c2) L2 → L2.map EvX.evt = F.map EvX.evt → (∀ x ∈ L2, x.ok = true) → Calls Tryd.prog 34 #[.slice a2 fl c2, .slice fa fl fc] w' fun e w'' => e = .returned (.bool true) ∧ Ext w' w'') := ⟨fun w' a2 c2 L2 h h2 h3 h4 => by
        have hrow := (hH.out.ext' h).row
        rw [hfl] at hrow
        have h2' := h2
        obtain ⟨_, _, _, _, _, _, hat2⟩ := h2'
        exact sameX_any _ _ L2 F w' h2 (hXF w' _ hrow (Ext.trans' hH.out.ext h)) (cores (fun x hx => ⟨(hat2 x hx).1, h4 x hx⟩) (fun x hx => ⟨(hF x hx).1.1, (hF x hx).2⟩) h3)⟩
      have heq : ((bs (textX F)).toList == (bs (textX F)).toList) = true := by simp
      have hxr : Ext wr wr := Below.refl _ _
      generalize bs (textX F) = sT at *
      clear hF hFlen hgood hXF hallF hat htk hl1 hfl
      go_wp2_with (first
        | (go_at_call 30; (with_reducible refine (cW.out _ hxr).mono ?_); rintro e w2 ⟨rfl, hb⟩; have hxr := Ext.trans' hxr hb)
        | (go_at_call 31; (with_reducible refine (cR.out _ hxr).mono ?_); rintro e w2 ⟨a2, c2, L2, rfl, hL2, hb⟩; have hxr := Ext.trans' hxr hb)
        | (go_at_call 30; (with_reducible refine (cW2.out _ _ _ _ hxr hL2.out.1 hL2.out.2.1 hL2.out.2.2).mono ?_); rintro e w2 ⟨rfl, hb⟩; have hxr := Ext.trans' hxr hb; have hL3 := Box.mk (hL2.out.1.ext hb))
        | (go_at_call 34; (with_reducible refine (cS.out _ _ _ _ hxr hL3.out hL2.out.2.1 hL2.out.2.2).mono ?_); rintro e w2 ⟨rfl, hb⟩; have hxr := Ext.trans' hxr hb))
      have HH3 := Box.mk (hH.out.ext' hxr).h3
      clear hxr hb hL2 hL3 cW cR cW2 cS hH
      have hLl : Box (L1.length ≤ 20) := ⟨by rw [← hL1.out]; exact HFl.out⟩
      go_loopw [15, 16] (fun ov iv wx => ∃ i : Nat, i ≤ sn ∧ i ≤ 30 ∧ iv = .int .i64 i ∧ ∃ ov0, ov0 = ov ∧ ∃ t, Box (H3 W wx S F (.slice fa fl fc) ov0 L1 cs t)) (fun _ i _ => 30 - (intOf i).toNat)
      case atStart => exact ⟨0, by omega, by omega, rfl, _, rfl, 0, HH3⟩
      case round =>
        obtain ⟨i, hisn, hi30, rfl, ov, rfl, t, hH⟩ := hrel
        clear HH3
        by_cases hin : i < sn ∧ i < 30
        · obtain ⟨hi1, hi2⟩ := hin
          have hiz : i < zs.length := by rw [HZL.out]; exact hi1
          obtain ⟨zb, zo, rfl, hzc⟩ := HSC.out i (.int .u8 zs[i]) (by simp [hiz])
          obtain ⟨z0, z1⟩ := wf_u8 (HWZ.out zs[i] (List.getElem_mem hiz))
          have HZC := Box.mk hzc
          have p0 := Ext.cell hH.out.ext hzc
          generalize zs[i] = z at *
          obtain ⟨z, rfl⟩ := Int.eq_ofNat_of_zero_le z0
          have q1 : IntKind.i64.wrap (z : Int) = z := by rw [IntKind.wrap_i64]; omega
          have e1 : decide ((i : Int) < (sn : Int)) = true := decide_eq_true (by omega)
          have e2 : decide (i < sn) = true := decide_eq_true hi1
          have e3 : decide ((i : Int) < 30) = true := decide_eq_true (by omega)
          have e4 : decide (i < 30) = true := decide_eq_true hi2
          have cT := Box.mk (hH.out.take hS0.out hLl.out z (by omega))
          clear hzc
          go_wp2_with (first
            | (go_at_call 19; (with_reducible refine cT.out.mono ?_); rintro e w3 ⟨ta, tm, tc, hm1, hm2, rfl, hE3, ov', w4, happ, hH4⟩; have p0 := Ext.cell hE3 HZC.out; have f1 : decide ((z : Int) < (tm : Int)) = false := decide_eq_false (by omega); have f2 : decide (z < tm) = false := decide_eq_false (by omega); clear hE3)
            | (at_builtin; refine wpList_app rfl _ _ _ _ rfl _ _ _ _ rfl rfl happ ?_))
          go_roundw
          case rel => exact ⟨i + 1, by omega, by omega, by go_num, _, rfl, t + tm, hH4⟩
          case measure => simp [intOf]; omega
        · have key : (decide ((i : Int) < (sn : Int)) = false ∧ decide (i < sn) = false) ∨ (decide ((i : Int) < (sn : Int)) = true ∧ decide (i < sn) = true ∧ decide ((i : Int) < 30) = false ∧ decide (i < 30) = false) := by
            by_cases h1 : i < sn
            · exact Or.inr ⟨decide_eq_true (by omega), decide_eq_true h1, decide_eq_false (by omega), decide_eq_false (by omega)⟩
            · exact Or.inl ⟨decide_eq_false (by omega), decide_eq_false h1⟩
          clear hin
          have hu5 : Box (∀ r, r < 5 → IntKind.u64.wrap ((tot cs r : Int) + (cs (r + 1) : Int)) = ((tot cs (r + 1) : Nat) : Int)) := ⟨fun r hr => by
            have h1 : tot cs (r + 1) = tot cs r + cs (r + 1) := rfl
            have h2 := tot_le cs (r + 1) 5 (by omega)
            rw [hH.out.tot, HFL.out] at h2
            have h3 := HFl.out
            rw [IntKind.wrap_u64]; omega⟩
          have hwl : IntKind.u64.wrap (fl : Int) = fl := by rw [IntKind.wrap_u64]; have := HFl.out; omega
          rcases key with ⟨e1, e2⟩ | ⟨e1, e2, e3, e4⟩
          all_goals
            go_wp2
            go_loopw [19, 20] (fun sv kv wx => ∃ r : Nat, r ≤ 5 ∧ kv = .int .i64 ((r + 1 : Nat) : Int) ∧ sv = .int .u64 ((tot cs r : Nat) : Int) ∧ Box (H3 W wx S F (.slice fa fl fc) ov L1 cs t)) (fun _ i _ => 6 - (intOf i).toNat)
            case atStart => exact ⟨0, by omega, rfl, rfl, hH⟩
            case round =>
              obtain ⟨r, hr, rfl, rfl, hH⟩ := hrel
              by_cases hr5 : r < 5
              · have g1 : decide (((r + 1 : Nat) : Int) ≤ 5) = true := decide_eq_true (by omega)
                have g2 : decide ((r : Int) + 1 ≤ 5) = true := decide_eq_true (by omega)
                have g3 : decide (r + 1 ≤ 5) = true := decide_eq_true (by omega)
                have u1 := hu5.out r hr5
                have cC : Box (Calls Tryd.prog 21 #[.pointer (some ⟨S, 0, none⟩), .int .i64 ((r : Int) + 1)] wr fun e w' => e = .returned (.int .u64 (cs (r + 1))) ∧ wr = w') := ⟨count_any S (L1.drop t) cs (L1.drop t).length (r + 1) (by omega) (by omega) wr hH.out.st⟩
                generalize hT1 : tot cs r = t1 at *
                generalize hT2 : tot cs (r + 1) = t2 at *
                generalize cs (r + 1) = c1 at *
                have HT2 := Box.mk hT2
                clear hT1 hT2
                go_wp2_with (first
                  | (go_at_call 21; (with_reducible refine cC.out.mono ?_); rintro e w5 ⟨rfl, rfl⟩))
                go_roundw
                case rel => exact ⟨r + 1, by omega, by go_num, by rw [HT2.out], hH⟩
                case measure => simp [intOf]; omega
              · obtain rfl : r = 5 := by omega
                have hT5 := hH.out.tot
                rw [HFL.out] at hT5
                rw [hT5]
                have cL : Box _ := ⟨hH.out.list hLl.out HF.out (by rw [HFL.out]; exact HFl.out)⟩
                clear hT5
                go_wp2_with (first
                  | (go_at_call 35; (with_reducible refine cL.out.mono ?_); rintro e w5 ⟨la, lm, lc, rfl, ov5, w6, happ, hE6, hS6⟩)
                  | (at_builtin; refine wpList_app rfl _ _ _ _ rfl _ _ _ _ rfl rfl happ ?_)
                  | (go_at_call 34; (with_reducible refine hS6.out.mono ?_); rintro e w7 ⟨rfl, hb7⟩; have hE7 := Ext.trans' hE6.out hb7)
                  | (go_at_call 11; (with_reducible refine (ck.out _ hE7).mono ?_); rintro e w8 ⟨rfl, hb8⟩; have hE8 := Ext.trans' hE7 hb8))
                go_ret
                exact ⟨rfl, hE8⟩
set_option maxRecDepth 100000 in
set_option maxHeartbeats 4000000 in
theorem lawEventHolds_walk (v sv : Value) (W : World) (hv : ∃ L, EvsArg W v L) (hs : IntsArg .u8 W sv) (ht : EnvV W) :
    Calls Tryd.prog 10 #[v, sv] W fun e W' => e = .returned (.bool true) ∧ Below W.heap.size W W' := by
  obtain ⟨L, hL⟩ := hv
  cases hz : fewZ L 20 with
  | true =>
    obtain ⟨h1, h2⟩ := fewZ_yes hz
    obtain ⟨M, g1, g2, g3⟩ := hL.few (by omega) h2
    exact holds_few v sv L M W hL g2 (by omega) hz hs ht
  | false =>
    have ck : Box (∀ w, Ext W w → Calls Tryd.prog 11 #[] w fun e w' => e = .returned (.bool true) ∧ Ext w w') := ⟨fun w h => known_any w (ht.ext h)⟩
    have hx : Ext W W := Below.refl _ _
    have cf : Box (Calls Tryd.prog 29 #[v, .int .i64 20] W fun e w' => e = .returned (.bool false) ∧ Ext W w') := ⟨by have h := few_any v L 20 W W hL (by decide) hx; rw [hz] at h; exact h⟩
    obtain ⟨a, c, rfl, _⟩ := hL
    obtain ⟨sa, sn, sc, zs, rfl, _⟩ := hs
    clear ht hz
    go_enter Tryd.func10, Tryd.ntmps10
    go_wp2_with (first
      | (go_at_call 29; (with_reducible refine (cf.out).mono ?_); rintro e w1 ⟨rfl, hb⟩; have hx := Ext.trans' hx hb)
      | (go_at_call 11; (with_reducible refine (ck.out _ hx).mono ?_); rintro e w1 ⟨rfl, hb⟩; have hx := Ext.trans' hx hb))
    go_ret
    exact ⟨rfl, hx⟩
end Go.Proofs.YtapngkjgagapeaaDoor
