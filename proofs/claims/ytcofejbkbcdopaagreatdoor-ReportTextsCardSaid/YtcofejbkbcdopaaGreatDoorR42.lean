import Derived.Test.YtcofejbkbcdopaaGreatDoorR42H
/- The walk of ReportTexts. -/
namespace Go.Proofs.YtcofejbkbcdopaaGreatDoor
open Go.RowKit
theorem reg23z {W w : World} {Q : Nat} (q x : Nat → Int) (hE : Ext W w) (hQ : RcAt Q q w) :
    ∃ X, Value.pointer (some ⟨w.heap.size, 0, none⟩) = .pointer (some ⟨X, 0, none⟩) ∧ Box (RcAt X x (w.alloc (.cells #[.int .i64 (x 0), .int .i64 (x 1), .int .i64 (x 2), .int .i64 (x 3), .int .i64 (x 4), .int .i64 (x 5), .int .i64 (x 6), .int .i64 (x 7), .int .i64 (x 8), .int .i64 (x 9), .int .i64 (x 10), .int .i64 (x 11)] 24)).drew) ∧ Box (RcAt Q q (w.alloc (.cells #[.int .i64 (x 0), .int .i64 (x 1), .int .i64 (x 2), .int .i64 (x 3), .int .i64 (x 4), .int .i64 (x 5), .int .i64 (x 6), .int .i64 (x 7), .int .i64 (x 8), .int .i64 (x 9), .int .i64 (x 10), .int .i64 (x 11)] 24)).drew) ∧ Box (Ext W (w.alloc (.cells #[.int .i64 (x 0), .int .i64 (x 1), .int .i64 (x 2), .int .i64 (x 3), .int .i64 (x 4), .int .i64 (x 5), .int .i64 (x 6), .int .i64 (x 7), .int .i64 (x 8), .int .i64 (x 9), .int .i64 (x 10), .int .i64 (x 11)] 24)).drew) :=
  ⟨w.heap.size, rfl, ⟨RcAt.ext (range_mk w x) (Ext.drew1 (Below.refl _ _))⟩, ⟨RcAt.ext hQ (Ext.drew1 (Ext.alloc (Below.refl _ _) _))⟩, ⟨Ext.drew1 (Ext.alloc hE _)⟩⟩
set_option maxRecDepth 100000 in
set_option maxHeartbeats 40000000 in
theorem texts_main (f : Nat → Int) (hf : ∀ i, i < 12 → f i ≤ 9223372036854775807) (s : ByteArray) (hs : s.size ≤ 400) (W : World) (ht : EnvV W) :
    Calls Tryz.prog 3 #[(.agg #[.int .i64 (f 0), .int .i64 (f 1), .int .i64 (f 2), .int .i64 (f 3), .int .i64 (f 4), .int .i64 (f 5), .int .i64 (f 6), .int .i64 (f 7), .int .i64 (f 8), .int .i64 (f 9), .int .i64 (f 10), .int .i64 (f 11)]), .string s] W fun e W' => e = .returned (.bool true) ∧ Below W.heap.size W W' := by
  obtain ⟨dC, huC, hdC⟩ := und_row rowRC
  obtain ⟨i0, hi, hz0, hz1, hz2⟩ := info_parts infoI
  obtain ⟨y, en, b, cR, cT, hcase⟩ := texts_start f hf W ht
  obtain ⟨q, eq_, hqle, cq, hqc⟩ := texts_read s hs W ht
  have cR := Box.mk cR
  have cT := Box.mk cT
  have hcase := Box.mk hcase
  have cq := Box.mk cq
  have hqc := Box.mk hqc
  have hqle := Box.mk hqle
  have ck : Box (∀ w', Ext W w' → _) := ⟨fun w' h => known_any w' (ht.ext h)⟩
  have hEnv : Box (EnvV W) := ⟨ht⟩
  have ge := rc_struct.2.2
  have qe := eqRL f f (fun _ _ => rfl)
  have d3 : decide ((400 : Int) < (s.size : Int)) = false := decide_eq_false (by omega)
  have d4 : decide (400 < s.size) = false := decide_eq_false (by omega)
  have hE0 : Ext W (W.alloc (.cells #[.int .i64 (f 0), .int .i64 (f 1), .int .i64 (f 2), .int .i64 (f 3), .int .i64 (f 4), .int .i64 (f 5), .int .i64 (f 6), .int .i64 (f 7), .int .i64 (f 8), .int .i64 (f 9), .int .i64 (f 10), .int .i64 (f 11)] 24)) := Ext.alloc (Below.refl _ _) _
  have hF0 : RcAt W.heap.size f (W.alloc (.cells #[.int .i64 (f 0), .int .i64 (f 1), .int .i64 (f 2), .int .i64 (f 3), .int .i64 (f 4), .int .i64 (f 5), .int .i64 (f 6), .int .i64 (f 7), .int .i64 (f 8), .int .i64 (f 9), .int .i64 (f 10), .int .i64 (f 11)] 24)) := newblk _ _
  replace hE0 := Box.mk hE0
  replace hF0 := Box.mk hF0
  clear ht hf
  go_enter Tryz.func3, Tryz.ntmps3
  go_upto_region 3 with (fail)
  generalize hWC : W.heap.size = C at hF0 ⊢
  have hCW : Box (W.heap.size = C) := ⟨hWC⟩
  generalize W.alloc (.cells #[.int .i64 (f 0), .int .i64 (f 1), .int .i64 (f 2), .int .i64 (f 3), .int .i64 (f 4), .int .i64 (f 5), .int .i64 (f 6), .int .i64 (f 7), .int .i64 (f 8), .int .i64 (f 9), .int .i64 (f 10), .int .i64 (f 11)] 24) = w0 at *
  clear hWC
  go_upto_region 5 with (first
    | (refine wpList_load_mid rfl 24 (.tmp 2) rfl C 0 rfl [.int .i64 (f 0), .int .i64 (f 1), .int .i64 (f 2), .int .i64 (f 3), .int .i64 (f 4), .int .i64 (f 5), .int .i64 (f 6), .int .i64 (f 7), .int .i64 (f 8), .int .i64 (f 9), .int .i64 (f 10), .int .i64 (f 11)] dC (rc_range hF0.out) huC hdC infoRC ?_)
    | (go_at_call 6; (with_reducible refine (cR.out _ hE0.out).mono ?_); rintro e w1 ⟨rfl, hb⟩; replace hE0 := Box.mk (Ext.trans' hE0.out hb); replace hF0 := Box.mk (RcAt.ext hF0.out hb); clear hb)
    | (go_at_call 7; (with_reducible refine (cT.out _).mono ?_); rintro e w2 ⟨rfl, hb⟩; replace hE0 := Box.mk (Ext.trans' hE0.out hb); replace hF0 := Box.mk (RcAt.ext hF0.out hb); clear hb))
  go_cut [5, 6, 7, 8, 56] from 35 to 56 (fun s5 s6 _ s8 s56 wx => s5 = .string y ∧ s8 = .bool b ∧ s56 = .bool false ∧ w2 = wx)
  case first => as_aux_lemma =>
    have hyy : (y.toList == y.toList) = true := by simp
    rcases hcase.out with ⟨rfl, rfl, -, -⟩ | ⟨rfl, rfl, rfl⟩
    all_goals as_aux_lemma =>
      go_wp2
      go_meet
      exact ⟨rfl, rfl, rfl, rfl⟩
  case rest =>
    obtain ⟨rfl, rfl, rfl, rfl⟩ := hcut
    go_upto_if 57 with (fail)
    go_cut [5, 6, 7, 8, 9, 10] from 57 to 69 (fun _ _ _ _ _ _ wx => Box (Ext W wx))
    case first => as_aux_lemma =>
      rcases hcase.out with ⟨rfl, rfl, -, cQ⟩ | ⟨rfl, rfl, rfl⟩
      · as_aux_lemma =>
        replace cQ := Box.mk cQ
        go_wp2_with (first
          | (go_at_call 8; (with_reducible refine (cQ.out _ hE0.out).mono ?_); rintro e w5 ⟨rfl, hb⟩; have hR5 := Box.mk (range_mk w5 f); have hE1 := Box.mk (Ext.alloc (Ext.trans' hE0.out hb) (.cells #[.int .i64 (f 0), .int .i64 (f 1), .int .i64 (f 2), .int .i64 (f 3), .int .i64 (f 4), .int .i64 (f 5), .int .i64 (f 6), .int .i64 (f 7), .int .i64 (f 8), .int .i64 (f 9), .int .i64 (f 10), .int .i64 (f 11)] 24)); have hF1 := Box.mk (RcAt.ext (RcAt.ext hF0.out hb) (Ext.alloc (Below.refl _ _) (.cells #[.int .i64 (f 0), .int .i64 (f 1), .int .i64 (f 2), .int .i64 (f 3), .int .i64 (f 4), .int .i64 (f 5), .int .i64 (f 6), .int .i64 (f 7), .int .i64 (f 8), .int .i64 (f 9), .int .i64 (f 10), .int .i64 (f 11)] 24))); clear hb)
          | (refine wpList_store_new rfl w5 24 (.tmp 9) (.tmp 61) rfl _ #[.int .i64 (f 0), .int .i64 (f 1), .int .i64 (f 2), .int .i64 (f 3), .int .i64 (f 4), .int .i64 (f 5), .int .i64 (f 6), .int .i64 (f 7), .int .i64 (f 8), .int .i64 (f 9), .int .i64 (f 10), .int .i64 (f 11)] rfl rfl infoRC rfl (oneRC f) ?_)
          | (refine wpList_load_mid rfl 24 (.tmp 9) rfl w5.heap.size 0 rfl [.int .i64 (f 0), .int .i64 (f 1), .int .i64 (f 2), .int .i64 (f 3), .int .i64 (f 4), .int .i64 (f 5), .int .i64 (f 6), .int .i64 (f 7), .int .i64 (f 8), .int .i64 (f 9), .int .i64 (f 10), .int .i64 (f 11)] dC (rc_range hR5.out) huC hdC infoRC ?_)
          | (refine wpList_load_mid rfl 24 (.tmp 2) rfl C 0 rfl [.int .i64 (f 0), .int .i64 (f 1), .int .i64 (f 2), .int .i64 (f 3), .int .i64 (f 4), .int .i64 (f 5), .int .i64 (f 6), .int .i64 (f 7), .int .i64 (f 8), .int .i64 (f 9), .int .i64 (f 10), .int .i64 (f 11)] dC (rc_range hF1.out) huC hdC infoRC ?_))
        go_meet
        exact hE1
      · as_aux_lemma =>
        go_wp2
        go_meet
        exact hE0
    case rest =>
      clear hE0 hF0 cR cT hcase qe
      have hE0 := hcut
      go_wp2
      go_loopw [11, 12, 13] (fun nv lv iv wr => ∃ i : Nat, i ≤ s.size ∧ iv = .int .i64 (i : Int) ∧ ∃ (m : Nat) (l : List Nat), Box (l = numsR (s.data.toList.take i)) ∧ Box (l.length = m) ∧ m ≤ i ∧ lv = .int .i64 (m : Int) ∧ ∃ a6 c6, nv = .slice a6 m c6 ∧ Box (wr.ownsRow W.heap.size 3 1 (.slice a6 m c6) m (l.map vI)) ∧ Box (Ext W wr)) (fun _ _ iv _ => s.size - (intOf iv).toNat)
      case atStart => exact ⟨0, by omega, rfl, 0, [], ⟨rfl⟩, ⟨rfl⟩, Nat.le_refl _, rfl, none, 0, rfl, ⟨World.ownsRow_nil _ _ _ _⟩, hE0⟩
      case round =>
        clear hE0 hcut
        obtain ⟨i, hi9, rfl, m, l, hl, hlm, hmi, rfl, a6, c6, rfl, hown, hE⟩ := hrel
        by_cases hin : i < s.size
        · have hgg : ∀ h, s[i]'h = s.data.toList.getD i 0 := fun h => get_getDz s i h
          have n0 : (0 : Int) ≤ (i : Int) := by omega
          have n1 : (i : Int) < (s.size : Int) := by omega
          have n2 : decide ((i : Int) < (s.size : Int)) = true := decide_eq_true n1
          have n3 : decide (i < s.size) = true := decide_eq_true hin
          have htk := Box.mk (take_getD s.data.toList i hin)
          generalize s.data.toList.getD i 0 = c at *
          have hc256 := c.toNat_lt
          have hi1 : i + 1 ≤ s.size := hin
          have hi2 : s.size - (i + 1) < s.size - i := by omega
          have w5 : IntKind.i64.wrap ((m : Int) + 1) = (m : Int) + 1 := z64_one (by omega)
          by_cases h10 : c = 10
          · as_aux_lemma =>
            subst h10
            have hl2 : Box (l ++ [0] = numsR (s.data.toList.take (i + 1))) := ⟨by rw [htk.out, nums_lf, hl.out]⟩
            have hlm2 : Box ((l ++ [0]).length = m + 1) := ⟨by rw [List.length_append, hlm.out]; rfl⟩
            have hmap : Box ((l ++ [0]).map vI = l.map vI ++ [.int .i64 0]) := ⟨by rw [List.map_append]; rfl⟩
            have hk5 : m + 1 ≤ 140737488355328 := by omega
            have hk6 : (m + 1) * 8 ≤ 140737488355328 := by omega
            have hk7 : m + 1 ≤ i + 1 := by omega
            go_wp2_with (at_builtin; refine wpList_push rfl _ _ 33 rfl W.heap.size 3 i0 (.int .i64 0) 1 8 Tryz.underlying33 hi hz0 hz1 hz2 rfl (by decide) _ _ _ rfl hown.out [.int .i64 0] rfl rfl (by simp [Value.oneCell']) hk5 hk6 hE.out.size ?_; intro v1 w3 hown3 hg3 hbel3 hs3)
            obtain ⟨a7, c7, rfl⟩ : ∃ a7 c7, v1 = .slice a7 (m + 1) c7 := by
              rcases hown3.2 with ⟨h9, h0⟩ | ⟨g, cap', cur, h9, _⟩
              · exact absurd h0 (Nat.succ_ne_zero _)
              · exact ⟨_, _, h9⟩
            go_roundw
            case rel => exact ⟨i + 1, hi1, by go_num, m + 1, l ++ [0], hl2, hlm2, hk7, by go_num, a7, c7, rfl, ⟨by rw [hmap.out]; exact hown3⟩, ⟨Below.trans hE.out hbel3⟩⟩
            case measure =>
              clear w5
              simp [intOf]; omega
          · have hne : (c.toNat : Int) ≠ 10 := fun e => h10 (UInt8.toNat_inj.1 (by show c.toNat = 10; omega))
            have r0 : ((c.toNat : Int) == 10) = false := beq_eq_false_iff_ne.2 hne
            have hk7 : m ≤ i + 1 := by omega
            by_cases hd : 48 ≤ c.toNat ∧ c.toNat ≤ 57
            · obtain ⟨e1, e2⟩ := hd
              have a1 : decide ((48 : Int) ≤ (c.toNat : Int)) = true := decide_eq_true (by omega)
              have a2 : decide ((c.toNat : Int) ≤ 57) = true := decide_eq_true (by omega)
              have a3 : decide (48 ≤ c.toNat) = true := decide_eq_true e1
              have a4 : decide (c.toNat ≤ 57) = true := decide_eq_true e2
              by_cases hm0 : m = 0
              · as_aux_lemma =>
                have hl0 : l = [] := List.length_eq_zero_iff.1 (by rw [hlm.out]; exact hm0)
                have hl2 : Box (l = numsR (s.data.toList.take (i + 1))) := ⟨by rw [htk.out, nums_none _ _ h10 (by rw [← hl.out]; exact hl0)]; exact hl0⟩
                have b1 : decide ((0 : Int) < (m : Int)) = false := decide_eq_false (by omega)
                have b2 : decide (0 < m) = false := decide_eq_false (by omega)
                clear hl0 hm0 h10
                go_wp2
                go_roundw
                case rel => exact ⟨i + 1, hi1, by go_num, m, l, hl2, hlm, hk7, rfl, a6, c6, rfl, hown, hE⟩
                case measure =>
                  clear w5
                  simp [intOf]; omega
              · obtain ⟨k, hk⟩ : ∃ k, m = k + 1 := ⟨m - 1, by omega⟩
                obtain ⟨t, a, rfl, htl⟩ := snoc_of l k (by rw [hlm.out]; exact hk)
                have b1 : decide ((0 : Int) < (m : Int)) = true := decide_eq_true (by omega)
                have b2 : decide (0 < m) = true := decide_eq_true (by omega)
                have b3 : (m : Int) - 1 = (k : Int) := by omega
                have b4 : (0 : Int) ≤ (k : Int) := by omega
                have b5 : (k : Int) < (m : Int) := by omega
                have b6 : k < m := by omega
                obtain ⟨g, rfl⟩ : ∃ g, a6 = some ⟨g, 0, none⟩ := by
                  rcases hown.out.2 with ⟨_, h0⟩ | ⟨g, cap', cur, h9, _⟩
                  · exact absurd h0 hm0
                  · cases h9; exact ⟨g, rfl⟩
                have cN : wr.cell? ⟨g, k, none⟩ = some (.int .i64 (a : Nat)) := by rw [hown.out.cellAt k (by omega)]; exact get_last t a k htl
                have fN := hown.out.frozenAt k
                have hgB : W.heap.size ≤ g := (hown.out.lt g rfl).1
                have w1 := z64_small (p := k) (by omega)
                have w2 := zw64_small (p := k) (by omega)
                have hnd := Box.mk (nums_digit (s.data.toList.take i) c a t ⟨e1, e2⟩ hl.out.symm)
                by_cases ha : a < 576460752303423488
                · as_aux_lemma =>
                  rw [if_pos ha] at hnd
                  have b7 : decide ((a : Int) < 576460752303423488) = true := decide_eq_true (by omega)
                  have b8 : decide (a < 576460752303423488) = true := decide_eq_true ha
                  have d9 : c.toNat - 48 ≤ 9 := by omega
                  have q1 : IntKind.u8.wrap ((c.toNat : Int) - 48) = ((c.toNat - 48 : Nat) : Int) := by rw [IntKind.wrap_u8]; omega
                  have q2 : IntKind.i64.wrap ((c.toNat - 48 : Nat) : Int) = ((c.toNat - 48 : Nat) : Int) := z64_small (by omega)
                  have q5 : wrap64 ((c.toNat - 48 : Nat) : Int) = ((c.toNat - 48 : Nat) : Int) := zw64_small (by omega)
                  have q3 : IntKind.i64.wrap (10 * (a : Int)) = 10 * (a : Int) := z64_mul ha
                  have q4 : IntKind.i64.wrap (10 * (a : Int) + ((c.toNat - 48 : Nat) : Int)) = ((10 * a + (c.toNat - 48) : Nat) : Int) := z64_ten ha d9
                  have q6 : wrap64 (10 * (a : Int)) = 10 * (a : Int) := zw64_mul ha
                  have hst := Box.mk (hown.out.stored k (vI (10 * a + (c.toNat - 48)))).1
                  rw [set_last t a _ k htl] at hst
                  have hl2 : Box (t ++ [10 * a + (c.toNat - 48)] = numsR (s.data.toList.take (i + 1))) := ⟨by rw [htk.out]; exact hnd.out.symm⟩
                  have hlm2 : Box ((t ++ [10 * a + (c.toNat - 48)]).length = m) := ⟨by rw [List.length_append, htl, hk]; rfl⟩
                  have hE2 := Box.mk (Ext.drew1 (Ext.put hE.out hgB k (.int .i64 ((10 * a + (c.toNat - 48) : Nat) : Int))))
                  have hst2 : Box (((wr.setCell ⟨g, k, none⟩ (.int .i64 ((10 * a + (c.toNat - 48) : Nat) : Int))).drew).ownsRow W.heap.size 3 1 (.slice (some ⟨g, 0, none⟩) m c6) m ((t ++ [10 * a + (c.toNat - 48)]).map vI)) := ⟨World.ownsRow.drew hst.out⟩
                  clear hst hnd ha hm0 h10 hk htl
                  go_wp2
                  go_region
                  go_wp2
                  go_roundw
                  case rel => exact ⟨i + 1, hi1, by go_num, m, _, hl2, hlm2, hk7, rfl, _, c6, rfl, hst2, hE2⟩
                  case measure =>
                    clear w5 w1 w2 q1 q2 q5
                    (try clear q3 q4 q6)
                    simp [intOf]; omega
                · as_aux_lemma =>
                  rw [if_neg ha] at hnd
                  have b7 : decide ((a : Int) < 576460752303423488) = false := decide_eq_false (by omega)
                  have b8 : decide (a < 576460752303423488) = false := decide_eq_false ha
                  have hl2 : Box (t ++ [a] = numsR (s.data.toList.take (i + 1))) := ⟨by rw [htk.out]; exact hnd.out.symm⟩
                  clear hnd ha hm0 h10 hk htl
                  go_wp2
                  go_roundw
                  case rel => exact ⟨i + 1, hi1, by go_num, m, _, hl2, hlm, hk7, rfl, _, c6, rfl, hown, hE⟩
                  case measure =>
                    clear w5 w1 w2
                    simp [intOf]; omega
            · have hk2 : (decide ((48 : Int) ≤ (c.toNat : Int)) = false ∧ decide (48 ≤ c.toNat) = false) ∨ (decide ((48 : Int) ≤ (c.toNat : Int)) = true ∧ decide (48 ≤ c.toNat) = true ∧ decide ((c.toNat : Int) ≤ 57) = false ∧ decide (c.toNat ≤ 57) = false) := by
                by_cases h : 48 ≤ c.toNat
                · exact Or.inr ⟨decide_eq_true (by omega), decide_eq_true h, decide_eq_false (by omega), decide_eq_false (by omega)⟩
                · exact Or.inl ⟨decide_eq_false (by omega), decide_eq_false h⟩
              have hl2 : Box (l = numsR (s.data.toList.take (i + 1))) := ⟨by rw [htk.out, nums_other _ _ h10 (by omega)]; exact hl.out⟩
              clear hd h10
              rcases hk2 with ⟨a1, a2⟩ | ⟨a1, a2, a3, a4⟩
              all_goals as_aux_lemma =>
                go_wp2
                go_roundw
                case rel => exact ⟨i + 1, hi1, by go_num, m, l, hl2, hlm, hk7, rfl, a6, c6, rfl, hown, hE⟩
                case measure =>
                  clear w5
                  simp [intOf]; omega
        · obtain rfl : i = s.size := by omega
          have d1 : decide ((s.size : Int) < (s.size : Int)) = false := decide_eq_false (by omega)
          have d2 : decide (s.size < s.size) = false := decide_eq_false (by omega)
          have hlF : l = numsR s.data.toList := by
            rw [hl.out]; congr 1
            exact List.take_of_length_le (Nat.le_refl _)
          have hmc : m = s.data.toList.count 10 := by rw [← hlm.out, hlF, numsR_len]
          by_cases hm13 : m = 13
          · subst hm13
            replace hmc := Box.mk hmc.symm
            obtain ⟨g, rfl⟩ : ∃ g, a6 = some ⟨g, 0, none⟩ := by
              rcases hown.out.2 with ⟨_, h0⟩ | ⟨g, cap', cur, h9, _⟩
              · exact absurd h0 (by decide)
              · cases h9; exact ⟨g, rfl⟩
            have hcl : ∀ j, j < 12 → wr.cell? ⟨g, j, none⟩ = some (.int .i64 ((numF s.data.toList j : Nat) : Int)) := fun j hj => by
              rw [hown.out.cellAt j (by omega), hlF, List.getElem?_map]
              have hjl : j < (numsR s.data.toList).length := by rw [← hlF, hlm.out]; omega
              unfold numF
              rw [List.getD_eq_getElem?_getD, List.getElem?_eq_getElem hjl]
              rfl
            obtain ⟨x, hx⟩ : ∃ x : Nat → Int, x = fun j => ((numF s.data.toList j : Nat) : Int) := ⟨_, rfl⟩
            have hxle : ∀ i, i < 12 → x i ≤ 9223372036854775807 := fun i _ => by rw [hx]; have := numF_le s.data.toList i; show ((numF s.data.toList i : Nat) : Int) ≤ _; omega
            have hxok : okR x := fun i _ => by rw [hx]; show (0 : Int) ≤ ((numF s.data.toList i : Nat) : Int); omega
            have hxn : natF x = numF s.data.toList := by funext i; unfold natF; rw [hx]; simp
            have hcx : Box (∀ j, j < 12 → wr.cell? ⟨g, j, none⟩ = some (.int .i64 (x j))) := ⟨fun j hj => by rw [hx]; exact hcl j hj⟩
            have cTx := Box.mk (text_yes x hxle hxok)
            rw [hxn] at cTx
            have hxq : Box (∀ j, j < 12 → x j = ((numF s.data.toList j : Nat) : Int)) := ⟨fun j _ => by rw [hx]⟩
            clear hcl hx hxle hxok hxn hlF hl hlm hown
            go_upto_region 23 with (first
              | (go_at_call 8; (with_reducible refine (cq.out _ hE.out).mono ?_); rintro e w5 ⟨rfl, hb⟩; have hcy : Box (∀ j, j < 12 → (w5.alloc (.cells #[.int .i64 (q 0), .int .i64 (q 1), .int .i64 (q 2), .int .i64 (q 3), .int .i64 (q 4), .int .i64 (q 5), .int .i64 (q 6), .int .i64 (q 7), .int .i64 (q 8), .int .i64 (q 9), .int .i64 (q 10), .int .i64 (q 11)] 24)).cell? ⟨g, j, none⟩ = some (.int .i64 (x j))) := Box.mk (fun j hj => Ext.cell (Ext.trans' hb (Ext.alloc (Below.refl _ _) _)) (hcx.out j hj)); have hE1 := Box.mk (Ext.alloc (Ext.trans' hE.out hb) (.cells #[.int .i64 (q 0), .int .i64 (q 1), .int .i64 (q 2), .int .i64 (q 3), .int .i64 (q 4), .int .i64 (q 5), .int .i64 (q 6), .int .i64 (q 7), .int .i64 (q 8), .int .i64 (q 9), .int .i64 (q 10), .int .i64 (q 11)] 24)); have hQ1 := Box.mk (range_mk w5 q); clear hb)
              | (refine wpList_store_new rfl w5 24 (.tmp 14) (.tmp 130) rfl _ #[.int .i64 (q 0), .int .i64 (q 1), .int .i64 (q 2), .int .i64 (q 3), .int .i64 (q 4), .int .i64 (q 5), .int .i64 (q 6), .int .i64 (q 7), .int .i64 (q 8), .int .i64 (q 9), .int .i64 (q 10), .int .i64 (q 11)] rfl rfl infoRC rfl (oneRC q) ?_))
            clear hE hcx
            generalize w5.heap.size = Q at *
            generalize w5.alloc (.cells #[.int .i64 (q 0), .int .i64 (q 1), .int .i64 (q 2), .int .i64 (q 3), .int .i64 (q 4), .int .i64 (q 5), .int .i64 (q 6), .int .i64 (q 7), .int .i64 (q 8), .int .i64 (q 9), .int .i64 (q 10), .int .i64 (q 11)] 24) = w6 at *
            go_cut [16] from 134 to 171 (fun s16 wx => ∃ X, s16 = .pointer (some ⟨X, 0, none⟩) ∧ Box (RcAt X x wx) ∧ Box (RcAt Q q wx) ∧ Box (Ext W wx))
            case first =>
              clear cTx hxq hqc cq ck hEnv hqle hmc hs d1 d2 d3 d4 hi hz0 hz1 hz2 ge huC hdC hmi hi9 hin hCW
              have q0 := hcy.out 0 (by omega)
              have q1 := hcy.out 1 (by omega)
              have q2 := hcy.out 2 (by omega)
              have q3 := hcy.out 3 (by omega)
              have q4 := hcy.out 4 (by omega)
              have q5 := hcy.out 5 (by omega)
              have q6 := hcy.out 6 (by omega)
              have q7 := hcy.out 7 (by omega)
              have q8 := hcy.out 8 (by omega)
              have q9 := hcy.out 9 (by omega)
              have q10 := hcy.out 10 (by omega)
              have q11 := hcy.out 11 (by omega)
              have hgX : g ≠ w6.heap.size := Nat.ne_of_lt (lt_of_cell q0)
              have hQX : Q ≠ w6.heap.size := Nat.ne_of_lt (blk_lt hQ1.out)
              have hdr := Ext.drew1 (Below.refl w6.heap.size w6)
              have p0 := q0
              have p1 := q1
              have p2 := q2
              have p3 := q3
              have p4 := q4
              have p5 := q5
              have p6 := q6
              have p7 := q7
              have p8 := q8
              have p9 := q9
              have p10 := q10
              have p11 := q11
              replace q0 := Ext.cell hdr q0
              replace q1 := Ext.cell hdr q1
              replace q2 := Ext.cell hdr q2
              replace q3 := Ext.cell hdr q3
              replace q4 := Ext.cell hdr q4
              replace q5 := Ext.cell hdr q5
              replace q6 := Ext.cell hdr q6
              replace q7 := Ext.cell hdr q7
              replace q8 := Ext.cell hdr q8
              replace q9 := Ext.cell hdr q9
              replace q10 := Ext.cell hdr q10
              replace q11 := Ext.cell hdr q11
              clear hdr
              go_region_held3 (fun w' => w'.cell? ⟨g, 0, none⟩ = some (.int .i64 (x 0)) ∧ w'.cell? ⟨g, 1, none⟩ = some (.int .i64 (x 1)) ∧ w'.cell? ⟨g, 2, none⟩ = some (.int .i64 (x 2)) ∧ w'.cell? ⟨g, 3, none⟩ = some (.int .i64 (x 3)) ∧ w'.cell? ⟨g, 4, none⟩ = some (.int .i64 (x 4)) ∧ w'.cell? ⟨g, 5, none⟩ = some (.int .i64 (x 5)) ∧ w'.cell? ⟨g, 6, none⟩ = some (.int .i64 (x 6)) ∧ w'.cell? ⟨g, 7, none⟩ = some (.int .i64 (x 7)) ∧ w'.cell? ⟨g, 8, none⟩ = some (.int .i64 (x 8)) ∧ w'.cell? ⟨g, 9, none⟩ = some (.int .i64 (x 9)) ∧ w'.cell? ⟨g, 10, none⟩ = some (.int .i64 (x 10)) ∧ w'.cell? ⟨g, 11, none⟩ = some (.int .i64 (x 11)))
                (first
                  | (with_reducible exact ⟨q0, q1, q2, q3, q4, q5, q6, q7, q8, q9, q10, q11⟩)
                  | (with_reducible exact ⟨Ext.cell (Ext.drew1 (Ext.alloc (Below.refl _ _) _)) p0, Ext.cell (Ext.drew1 (Ext.alloc (Below.refl _ _) _)) p1, Ext.cell (Ext.drew1 (Ext.alloc (Below.refl _ _) _)) p2, Ext.cell (Ext.drew1 (Ext.alloc (Below.refl _ _) _)) p3, Ext.cell (Ext.drew1 (Ext.alloc (Below.refl _ _) _)) p4, Ext.cell (Ext.drew1 (Ext.alloc (Below.refl _ _) _)) p5, Ext.cell (Ext.drew1 (Ext.alloc (Below.refl _ _) _)) p6, Ext.cell (Ext.drew1 (Ext.alloc (Below.refl _ _) _)) p7, Ext.cell (Ext.drew1 (Ext.alloc (Below.refl _ _) _)) p8, Ext.cell (Ext.drew1 (Ext.alloc (Below.refl _ _) _)) p9, Ext.cell (Ext.drew1 (Ext.alloc (Below.refl _ _) _)) p10, Ext.cell (Ext.drew1 (Ext.alloc (Below.refl _ _) _)) p11⟩)
                  | (with_reducible exact ⟨st12_far x hgX (Ext.cell (Ext.drew1 (Ext.alloc (Below.refl _ _) _)) p0), st12_far x hgX (Ext.cell (Ext.drew1 (Ext.alloc (Below.refl _ _) _)) p1), st12_far x hgX (Ext.cell (Ext.drew1 (Ext.alloc (Below.refl _ _) _)) p2), st12_far x hgX (Ext.cell (Ext.drew1 (Ext.alloc (Below.refl _ _) _)) p3), st12_far x hgX (Ext.cell (Ext.drew1 (Ext.alloc (Below.refl _ _) _)) p4), st12_far x hgX (Ext.cell (Ext.drew1 (Ext.alloc (Below.refl _ _) _)) p5), st12_far x hgX (Ext.cell (Ext.drew1 (Ext.alloc (Below.refl _ _) _)) p6), st12_far x hgX (Ext.cell (Ext.drew1 (Ext.alloc (Below.refl _ _) _)) p7), st12_far x hgX (Ext.cell (Ext.drew1 (Ext.alloc (Below.refl _ _) _)) p8), st12_far x hgX (Ext.cell (Ext.drew1 (Ext.alloc (Below.refl _ _) _)) p9), st12_far x hgX (Ext.cell (Ext.drew1 (Ext.alloc (Below.refl _ _) _)) p10), st12_far x hgX (Ext.cell (Ext.drew1 (Ext.alloc (Below.refl _ _) _)) p11)⟩)
                  | go_keep)
                (first
                  | fail)
              all_goals
                go_wp2
                go_meet
                exact reg23z q x hE1.out hQ1.out
            case rest =>
              clear hcy hE1 hQ1
              obtain ⟨X, rfl, hX, hQ, hE⟩ := hcut
              by_cases htx : txtR (numF s.data.toList) = s.data.toList
              · as_aux_lemma =>
                obtain ⟨h1, hfit⟩ := fit_of_num htx
                have hyw : (⟨(txtR (numF s.data.toList)).toArray⟩ : ByteArray) = s := str_ext (by rw [htx])
                rw [hyw] at cTx
                obtain ⟨_, rfl, hqr⟩ | ⟨hn, _, _⟩ := hqc.out
                case inr => exact absurd hfit hn
                have qe := eqRL q x (fun j hj => by rw [hqr, h1 j hj, hxq.out j hj])
                have hss : (s.toList == s.toList) = true := by simp
                clear hqr h1 hfit hyw htx hqc hxq hqle hmc
                go_wp2_with (first
                  | (refine wpList_load_mid rfl 24 (.tmp 16) rfl X 0 rfl [.int .i64 (x 0), .int .i64 (x 1), .int .i64 (x 2), .int .i64 (x 3), .int .i64 (x 4), .int .i64 (x 5), .int .i64 (x 6), .int .i64 (x 7), .int .i64 (x 8), .int .i64 (x 9), .int .i64 (x 10), .int .i64 (x 11)] dC (rc_range hX.out) huC hdC infoRC ?_)
                  | (refine wpList_load_mid rfl 24 (.tmp 14) rfl Q 0 rfl [.int .i64 (q 0), .int .i64 (q 1), .int .i64 (q 2), .int .i64 (q 3), .int .i64 (q 4), .int .i64 (q 5), .int .i64 (q 6), .int .i64 (q 7), .int .i64 (q 8), .int .i64 (q 9), .int .i64 (q 10), .int .i64 (q 11)] dC (rc_range hQ.out) huC hdC infoRC ?_)
                  | (go_at_call 7; (with_reducible refine (cTx.out _).mono ?_); rintro e w8 ⟨rfl, hb⟩; replace hE := Box.mk (Ext.trans' hE.out hb); replace hX := Box.mk (RcAt.ext hX.out hb); replace hQ := Box.mk (RcAt.ext hQ.out hb); clear hb)
                  | (go_at_call 5; (with_reducible refine (ck.out _ hE.out).mono ?_); rintro e w9 ⟨rfl, hb⟩; replace hE := Box.mk (Ext.trans' hE.out hb); clear hb))
                go_ret
                exact ⟨rfl, hE.out⟩
              · have hss : ((⟨(txtR (numF s.data.toList)).toArray⟩ : ByteArray).toList == s.toList) = false := by
                  rw [Lib.toList_data, Lib.toList_data, beq_eq_false_iff_ne]; exact htx
                obtain ⟨hfit, rfl, hqr⟩ | ⟨hn, rfl, hqr⟩ := hqc.out
                · as_aux_lemma =>
                  have hbig : bigF q := by
                    apply Classical.byContradiction
                    intro hno
                    refine htx (num_of_fit hfit (fun i hi => ?_))
                    rw [← hqr]
                    have : ¬ 576460752303423488 ≤ q i := fun h => hno ⟨i, hi, h⟩
                    unfold natF; omega
                  have hqok : okR q := by rw [hqr]; exact hfit.1
                  have hyq : (⟨(txtR (natF q)).toArray⟩ : ByteArray) = s := str_ext (by rw [hqr]; exact hfit.2)
                  have cRq := Box.mk (run_yes q hqle.out hqok W hEnv.out)
                  rw [hyq] at cRq
                  have cB := Box.mk (big_any q hbig)
                  have hss2 : (s.toList == s.toList) = true := by simp
                  generalize (⟨(txtR (numF s.data.toList)).toArray⟩ : ByteArray) = yw at *
                  clear hqr hfit htx hqc hxq hqle hbig hqok hyq hmc
                  go_wp2_with (first
                    | (refine wpList_load_mid rfl 24 (.tmp 16) rfl X 0 rfl [.int .i64 (x 0), .int .i64 (x 1), .int .i64 (x 2), .int .i64 (x 3), .int .i64 (x 4), .int .i64 (x 5), .int .i64 (x 6), .int .i64 (x 7), .int .i64 (x 8), .int .i64 (x 9), .int .i64 (x 10), .int .i64 (x 11)] dC (rc_range hX.out) huC hdC infoRC ?_)
                    | (refine wpList_load_mid rfl 24 (.tmp 14) rfl Q 0 rfl [.int .i64 (q 0), .int .i64 (q 1), .int .i64 (q 2), .int .i64 (q 3), .int .i64 (q 4), .int .i64 (q 5), .int .i64 (q 6), .int .i64 (q 7), .int .i64 (q 8), .int .i64 (q 9), .int .i64 (q 10), .int .i64 (q 11)] dC (rc_range hQ.out) huC hdC infoRC ?_)
                    | (go_at_call 7; (with_reducible refine (cTx.out _).mono ?_); rintro e w8 ⟨rfl, hb⟩; replace hE := Box.mk (Ext.trans' hE.out hb); replace hX := Box.mk (RcAt.ext hX.out hb); replace hQ := Box.mk (RcAt.ext hQ.out hb); clear hb)
                    | (go_at_call 6; (with_reducible refine (cRq.out _ hE.out).mono ?_); rintro e w7 ⟨rfl, hb⟩; replace hE := Box.mk (Ext.trans' hE.out hb); replace hQ := Box.mk (RcAt.ext hQ.out hb); have z0 := hQ.out.cell 0 (by omega); have z1 := hQ.out.cell 1 (by omega); have z2 := hQ.out.cell 2 (by omega); have z3 := hQ.out.cell 3 (by omega); have z4 := hQ.out.cell 4 (by omega); have z5 := hQ.out.cell 5 (by omega); have z6 := hQ.out.cell 6 (by omega); have z7 := hQ.out.cell 7 (by omega); have z8 := hQ.out.cell 8 (by omega); have z9 := hQ.out.cell 9 (by omega); have z10 := hQ.out.cell 10 (by omega); have z11 := hQ.out.cell 11 (by omega); clear hb)
                    | (go_at_call 9; (with_reducible refine (cB.out _).mono ?_); rintro e w6 ⟨rfl, hb⟩; replace hE := Box.mk (Ext.trans' hE.out hb); replace hQ := Box.mk (RcAt.ext hQ.out hb); clear hb)
                    | (go_at_call 5; (with_reducible refine (ck.out _ hE.out).mono ?_); rintro e w9 ⟨rfl, hb⟩; replace hE := Box.mk (Ext.trans' hE.out hb); clear hb))
                  go_ret
                  exact ⟨rfl, hE.out⟩
                · as_aux_lemma =>
                  have hz : ∀ i, i < 12 → q i = 0 := fun i _ => by rw [hqr]
                  have qe := eqZS q hz
                  have cRq := Box.mk (run_yes q hqle.out (okR_zero q hz) W hEnv.out)
                  generalize (⟨(txtR (numF s.data.toList)).toArray⟩ : ByteArray) = yw at *
                  generalize (⟨(txtR (natF q)).toArray⟩ : ByteArray) = y2 at *
                  clear hqr hn htx hqc hxq hqle hz hmc
                  go_wp2_with (first
                    | (refine wpList_load_mid rfl 24 (.tmp 16) rfl X 0 rfl [.int .i64 (x 0), .int .i64 (x 1), .int .i64 (x 2), .int .i64 (x 3), .int .i64 (x 4), .int .i64 (x 5), .int .i64 (x 6), .int .i64 (x 7), .int .i64 (x 8), .int .i64 (x 9), .int .i64 (x 10), .int .i64 (x 11)] dC (rc_range hX.out) huC hdC infoRC ?_)
                    | (refine wpList_load_mid rfl 24 (.tmp 14) rfl Q 0 rfl [.int .i64 (q 0), .int .i64 (q 1), .int .i64 (q 2), .int .i64 (q 3), .int .i64 (q 4), .int .i64 (q 5), .int .i64 (q 6), .int .i64 (q 7), .int .i64 (q 8), .int .i64 (q 9), .int .i64 (q 10), .int .i64 (q 11)] dC (rc_range hQ.out) huC hdC infoRC ?_)
                    | (go_at_call 7; (with_reducible refine (cTx.out _).mono ?_); rintro e w8 ⟨rfl, hb⟩; replace hE := Box.mk (Ext.trans' hE.out hb); replace hX := Box.mk (RcAt.ext hX.out hb); replace hQ := Box.mk (RcAt.ext hQ.out hb); clear hb)
                    | (go_at_call 6; (with_reducible refine (cRq.out _ hE.out).mono ?_); rintro e w7 ⟨rfl, hb⟩; replace hE := Box.mk (Ext.trans' hE.out hb); replace hQ := Box.mk (RcAt.ext hQ.out hb); clear hb)
                    | (go_at_call 5; (with_reducible refine (ck.out _ hE.out).mono ?_); rintro e w9 ⟨rfl, hb⟩; replace hE := Box.mk (Ext.trans' hE.out hb); clear hb))
                  go_ret
                  exact ⟨rfl, hE.out⟩
          · as_aux_lemma =>
            have hnf : ¬ fitR s.data.toList := fun h => hm13 (by rw [hmc]; exact fit_count h)
            obtain ⟨hn, _, _⟩ | ⟨_, rfl, hqr⟩ := hqc.out
            case inl => exact absurd hn hnf
            have hz : ∀ i, i < 12 → q i = 0 := fun i _ => by rw [hqr]
            have qe := eqZS q hz
            have b1 : ((m : Int) == 13) = false := by rw [beq_eq_false_iff_ne]; omega
            have b2 : (m == 13) = false := by rw [beq_eq_false_iff_ne]; omega
            clear hqr hz hnf hmc hlF hl hlm hown hqc hqle hm13
            go_wp2_with (first
              | (go_at_call 8; (with_reducible refine (cq.out _ hE.out).mono ?_); rintro e w5 ⟨rfl, hb⟩; replace hE := Box.mk (Ext.alloc (Ext.trans' hE.out hb) (.cells #[.int .i64 (q 0), .int .i64 (q 1), .int .i64 (q 2), .int .i64 (q 3), .int .i64 (q 4), .int .i64 (q 5), .int .i64 (q 6), .int .i64 (q 7), .int .i64 (q 8), .int .i64 (q 9), .int .i64 (q 10), .int .i64 (q 11)] 24)); have hR5 := Box.mk (range_mk w5 q); clear hb)
              | (refine wpList_store_new rfl w5 24 (.tmp 14) (.tmp 130) rfl _ #[.int .i64 (q 0), .int .i64 (q 1), .int .i64 (q 2), .int .i64 (q 3), .int .i64 (q 4), .int .i64 (q 5), .int .i64 (q 6), .int .i64 (q 7), .int .i64 (q 8), .int .i64 (q 9), .int .i64 (q 10), .int .i64 (q 11)] rfl rfl infoRC rfl (oneRC q) ?_)
              | (refine wpList_load_mid rfl 24 (.tmp 14) rfl w5.heap.size 0 rfl [.int .i64 (q 0), .int .i64 (q 1), .int .i64 (q 2), .int .i64 (q 3), .int .i64 (q 4), .int .i64 (q 5), .int .i64 (q 6), .int .i64 (q 7), .int .i64 (q 8), .int .i64 (q 9), .int .i64 (q 10), .int .i64 (q 11)] dC (rc_range hR5.out) huC hdC infoRC ?_)
              | (go_at_call 5; (with_reducible refine (ck.out _ hE.out).mono ?_); rintro e w9 ⟨rfl, hb⟩; replace hE := Box.mk (Ext.trans' hE.out hb); clear hb))
            go_ret
            exact ⟨rfl, hE.out⟩
end Go.Proofs.YtcofejbkbcdopaaGreatDoor
