import Derived.Test.YtbnmnkmjokcmfaaDoorS31
/- The walk of SeasonTexts. -/
namespace Go.Proofs.YtbnmnkmjokcmfaaDoor
open Go.RowKit
theorem allV_one (a b : Int) : allV (l4 a 0 0 0) (l4 b 0 0 0) 4 = gB a b := by
  cases h : gB a b with
  | true => exact allV_iff.2 (four_cases h rfl rfl rfl)
  | false => exact allV_no (k := 0) (by omega) h
theorem lvalid_one (a b : Int) (w : World) : Calls Tryd.prog 10 #[(.agg #[.int .i64 (a), .int .i64 (b), .int .i64 0, .int .i64 0, .int .i64 0, .int .i64 0, .int .i64 0, .int .i64 0])] w fun e w' => e = .returned (.bool (gB a b)) ∧ Ext w w' := by
  rw [← allV_one]
  exact lvalid_any (l4 a 0 0 0) (l4 b 0 0 0) w
def sc0 : Sc := ⟨0, 0, 0, 1, 0⟩
set_option maxRecDepth 100000 in
set_option maxHeartbeats 32000000 in
/-- The walk from the second Parse on: h's parts and the error are given. -/
theorem stexts_core (a b : Int) (s : ByteArray) (W : World) (hs : s.size ≤ 60) (ht : EnvS W) (hx hy no : Int)
    (hP : ∀ w, Ext W w → Calls Tryd.prog 11 #[.string s] w fun e w' => e = .returned (.tuple #[(.agg #[.int .i64 (hx), .int .i64 (hy)]), .int .i64 no]) ∧ Ext w w')
    (hfin : (no = 0 ∧ hx = (scan 0 s.data.toList sc0).re ∧ hy = (scan 0 s.data.toList sc0).im ∧ 0 < (scan 0 s.data.toList sc0).at_ ∧ gB hx hy = true ∧ s = ⟨(textG hx hy).toArray⟩) ∨
      (no = 6 ∧ hx = 0 ∧ hy = 0 ∧ ∀ p q, gB p q = true → s ≠ ⟨(textG p q).toArray⟩)) :
    Calls Tryd.prog 3 #[(.agg #[.int .i64 (a), .int .i64 (b)]), .string s] W fun e W' => e = .returned (.bool true) ∧ Ext W W' := by
  have ck : Box (∀ w, Ext W w → Calls Tryd.prog 8 #[] w fun e w' => e = .returned (.bool true) ∧ Ext w w') := ⟨fun w h => known_any w (ht.ext h)⟩
  have cP : Box (∀ w, Ext W w → Calls Tryd.prog 11 #[.string s] w fun e w' => e = .returned (.tuple #[(.agg #[.int .i64 (hx), .int .i64 (hy)]), .int .i64 no]) ∧ Ext w w') := ⟨hP⟩
  have HF := Box.mk hfin
  have hxe : Ext W (W.alloc (.cells #[.int .i64 (a), .int .i64 (b)] 23)) := Ext.alloc (Below.refl _ _) _
  have hB := newblk W (.cells #[.int .i64 (a), .int .i64 (b)] 23)
  obtain ⟨⟨g0, g1⟩, -⟩ := gz hB
  have d60 : decide ((60 : Int) < (s.size : Int)) = false := decide_eq_false (by omega)
  have d60' : decide (60 < s.size) = false := decide_eq_false (by omega)
  have ge2 := g_struct.2.2
  have qe1 : ∀ w : World, (Op.equalIn 10000 23 (.agg #[.int .i64 (a), .int .i64 (b)]) (.agg #[.int .i64 (a), .int .i64 (b)])).run Tryd.prog w = .ok true w := fun w => eqG a b w
  have HT := Box.mk ht
  clear hP hfin ht
  have cV : Box (∀ w, _) := ⟨fun w => lvalid_one a b w⟩
  have pre : (gB a b = true ∧ ∃ X : ByteArray, (X.toList != X.toList) = false ∧ Box (∀ w, Ext W w → Calls Tryd.prog 9 #[(.agg #[.int .i64 (a), .int .i64 (b)])] w fun e w' => e = .returned (.tuple #[.string X, .int .i64 0]) ∧ Ext w w') ∧ Box (∀ w, Ext W w → Calls Tryd.prog 11 #[.string X] w fun e w' => e = .returned (.tuple #[(.agg #[.int .i64 (a), .int .i64 (b)]), .int .i64 0]) ∧ Ext w w') ∧ Box (∀ w, Calls Tryd.prog 12 #[(.agg #[.int .i64 (a), .int .i64 (b)])] w fun e w' => e = .returned (.string X) ∧ Ext w w')) ∨
      (gB a b = false ∧ Box (∀ w, Calls Tryd.prog 9 #[(.agg #[.int .i64 (a), .int .i64 (b)])] w fun e w' => e = .returned (.tuple #[.string ⟨#[]⟩, .int .i64 2]) ∧ Ext w w')) := by
    cases hg : gB a b with
    | true =>
      have h := gB_iff.1 hg
      exact Or.inl ⟨rfl, ⟨(textG a b).toArray⟩, by simp, ⟨fun w hw => stext_ok a b w hg (HT.out.tabs.ext hw)⟩, ⟨fun w hw => sparse_text a b hg w (HT.out.ext hw)⟩, ⟨fun w => ltext_any a b h.1 h.2 w⟩⟩
    | false => exact Or.inr ⟨rfl, ⟨fun w => stext_bad a b w hg⟩⟩
  have PR := Box.mk pre
  clear pre
  rcases PR.out with ⟨hg, X, hX, cT, cPX, cL⟩ | ⟨hg, cT⟩
  · rw [hg] at cV
    clear hg PR
    go_enter Tryd.func3, Tryd.ntmps3
    go_wp2_with (first
      | (go_at_call 9; (with_reducible refine (cT.out _ hxe).mono ?_); rintro e w1 ⟨rfl, hb⟩; have hxe := Ext.trans' hxe hb; have hB := Ext.blk hb hB; clear g0 g1; obtain ⟨⟨g0, g1⟩, -⟩ := gz hB)
      | (go_at_call 10; (with_reducible refine (cV.out _).mono ?_); rintro e w1 ⟨rfl, hb⟩; have hxe := Ext.trans' hxe hb; have hB := Ext.blk hb hB; clear g0 g1; obtain ⟨⟨g0, g1⟩, -⟩ := gz hB)
      | (go_at_call 11; (with_reducible refine (cPX.out _ hxe).mono ?_); rintro e w2 ⟨rfl, hb⟩; have hK := newblk w2 (.cells #[.int .i64 (a), .int .i64 (b)] 23); have hb := Ext.trans' hb (Ext.alloc (Below.refl _ w2) (.cells #[.int .i64 (a), .int .i64 (b)] 23)); have hxe := Ext.trans' hxe hb; have hB := Ext.blk hb hB; clear g0 g1; obtain ⟨⟨g0, g1⟩, -⟩ := gz hB; obtain ⟨⟨k0, k1⟩, -⟩ := gz hK)
      | (go_at_call 12; (with_reducible refine (cL.out _).mono ?_); rintro e w3 ⟨rfl, hb⟩; have hxe := Ext.trans' hxe hb; have hB := Ext.blk hb hB; have hK := Ext.blk hb hK; clear g0 g1 k0 k1; obtain ⟨⟨g0, g1⟩, -⟩ := gz hB; obtain ⟨⟨k0, k1⟩, -⟩ := gz hK)
      | (go_at_call 11; (with_reducible refine (cP.out _ hxe).mono ?_); rintro e w4 ⟨rfl, hb⟩; have hH := newblk w4 (.cells #[.int .i64 (hx), .int .i64 (hy)] 23); have hb := Ext.trans' hb (Ext.alloc (Below.refl _ w4) (.cells #[.int .i64 (hx), .int .i64 (hy)] 23)); have hxe := Ext.trans' hxe hb))
    have zs : (w4.alloc (.cells #[.int .i64 (hx), .int .i64 (hy)] 23)).heap.size = w4.heap.size + 1 := by simp
    have hW0 : Box (((w4.alloc (.cells #[.int .i64 (hx), .int .i64 (hy)] 23)).alloc (.cells #[.int .i64 (0), .int .i64 (0)] 23)).heap[w4.heap.size + 1]? = some (.cells #[.int .i64 (0), .int .i64 (0)] 23)) := ⟨by rw [← zs]; exact newblk _ _⟩
    have hH2 : Box (((w4.alloc (.cells #[.int .i64 (hx), .int .i64 (hy)] 23)).alloc (.cells #[.int .i64 (0), .int .i64 (0)] 23)).heap[w4.heap.size]? = some (.cells #[.int .i64 (hx), .int .i64 (hy)] 23)) := ⟨Ext.blk (Ext.alloc (Below.refl _ _) _) hH⟩
    have hE2 : Box (Ext W ((w4.alloc (.cells #[.int .i64 (hx), .int .i64 (hy)] 23)).alloc (.cells #[.int .i64 (0), .int .i64 (0)] 23))) := ⟨Ext.alloc hxe _⟩
    have hWs : W.heap.size ≤ w4.heap.size + 1 := by rw [← zs]; exact hxe.size
    clear hH hxe zs hb
    generalize w4.heap.size = Hb at *
    generalize (w4.alloc (.cells #[.int .i64 (hx), .int .i64 (hy)] 23)).alloc (.cells #[.int .i64 (0), .int .i64 (0)] 23) = wk at *
    go_loopw [11, 12, 13, 14] (fun nv sv av iv wr => ∃ k : Nat, k ≤ s.size ∧ iv = .int .i64 k ∧ ∃ x : Sc, Box (x = scan 0 (s.data.toList.take k) sc0) ∧ Box (ScOk x) ∧ nv = .int .i64 x.n ∧ sv = .int .i64 x.sg ∧ av = .int .i64 x.at_ ∧ Box (wr.heap[Hb + 1]? = some (.cells #[.int .i64 (x.re), .int .i64 (x.im)] 23)) ∧ Box (wr.heap[Hb]? = some (.cells #[.int .i64 (hx), .int .i64 (hy)] 23)) ∧ Box (Ext W wr)) (fun _ _ _ iv _ => s.size - (intOf iv).toNat)
    case atStart => exact ⟨0, by omega, rfl, sc0, ⟨rfl⟩, ⟨⟨by decide, by decide, by decide, Or.inl rfl⟩⟩, rfl, rfl, rfl, hW0, hH2, hE2⟩
    case round =>
      clear hW0 hH2 hE2
      obtain ⟨k, hk, rfl, x, hxs, hok, rfl, rfl, rfl, hWn, hH, hE⟩ := hrel
      by_cases hkn : k < s.size
      · have n1 : (0 : Int) ≤ (k : Int) := by omega
        have n2 : (k : Int) < (s.size : Int) := by omega
        have n2' : decide ((k : Int) < (s.size : Int)) = true := decide_eq_true n2
        have n3' : decide (k < s.size) = true := decide_eq_true hkn
        have hg : ∀ h, s[k]'h = s.data.toList.getD k 0 := fun h => get_getD s k h
        have hnx : Box (scan 0 (s.data.toList.take (k + 1)) sc0 = sc1 k (s.data.toList.getD k 0) x) := ⟨by rw [hxs.out]; exact scan_take _ k hkn _⟩
        have hways := sc_ways k (s.data.toList.getD k 0) x
        have hokn : Box (ScOk (sc1 k (s.data.toList.getD k 0) x)) := ⟨sc1_ok hok.out⟩
        obtain ⟨⟨m0, m1⟩, z0, z1⟩ := gz hWn.out
        obtain ⟨o1, o2, o3, o4⟩ := hok.out
        have wsn : IntKind.i64.wrap (x.sg * x.n) = x.sg * x.n := by rcases o4 with h | h <;> rw [h, IntKind.wrap_i64] <;> omega
        generalize s.data.toList.getD k 0 = c at *
        have hlt := c.toNat_lt
        have hS0 : Box (∀ v, (wr.setCell ⟨Hb + 1, 0, none⟩ (.int .i64 v)).heap[Hb + 1]? = some (.cells #[.int .i64 (v), .int .i64 (x.im)] 23)) := ⟨fun v => heap_setCell_same _ (Hb + 1) 0 _ _ _ hWn.out⟩
        have hS1 : Box (∀ v, (wr.setCell ⟨Hb + 1, 1, none⟩ (.int .i64 v)).heap[Hb + 1]? = some (.cells #[.int .i64 (x.re), .int .i64 (v)] 23)) := ⟨fun v => heap_setCell_same _ (Hb + 1) 1 _ _ _ hWn.out⟩
        have hHs : Box (∀ o v, (wr.setCell ⟨Hb + 1, o, none⟩ v).heap[Hb]? = some (.cells #[.int .i64 (hx), .int .i64 (hy)] 23)) := ⟨fun o v => (heap_setCell_other _ _ _ _ (by show Hb ≠ Hb + 1; omega)).trans hH.out⟩
        have hEs : Box (∀ o v, Ext W (wr.setCell ⟨Hb + 1, o, none⟩ v)) := ⟨fun o v => Ext.set hE.out hWs _ _⟩
        rcases hways with ⟨⟨e1, e2, e3, e4, e5⟩, he⟩ | ⟨hn, rfl, he⟩ | ⟨hn, rfl, he⟩ | ⟨hn, rfl, he⟩ | ⟨hn, h1, h2, h3, he⟩
        · have q1 : IntKind.u8.wrap ((c.toNat : Int) - 48) = ((c.toNat - 48 : Nat) : Int) := by rw [IntKind.wrap_u8]; omega
          have q2 : IntKind.i64.wrap ((c.toNat - 48 : Nat) : Int) = ((c.toNat - 48 : Nat) : Int) := by rw [IntKind.wrap_i64]; omega
          have q3 : IntKind.i64.wrap (10 * (x.n : Int)) = 10 * (x.n : Int) := by rw [IntKind.wrap_i64]; omega
          have q4 : IntKind.i64.wrap (10 * (x.n : Int) + ((c.toNat - 48 : Nat) : Int)) = ((10 * x.n + (c.toNat - 48) : Nat) : Int) := by rw [IntKind.wrap_i64]; omega
          obtain ⟨q5, q6⟩ : wrap64 ((c.toNat - 48 : Nat) : Int) = ((c.toNat - 48 : Nat) : Int) ∧ wrap64 (10 * (x.n : Int)) = 10 * (x.n : Int) := by unfold wrap64; omega
          rw [he] at hnx hokn
          clear he e4 e5 hlt o1 o2 o3 o4
          go_wp2
          go_roundw
          case rel => exact ⟨k + 1, by omega, by go_num, _, ⟨hnx.out.symm⟩, hokn, rfl, rfl, rfl, hWn, hH, hE⟩
          case measure => simp [intOf]; omega
        · rw [he] at hnx hokn
          clear he hn hlt o1 o2 o3 o4
          go_wp2
          go_roundw
          case rel => exact ⟨k + 1, by omega, by go_num, _, ⟨hnx.out.symm⟩, hokn, rfl, rfl, rfl, ⟨hS1.out _⟩, ⟨hHs.out _ _⟩, ⟨hEs.out _ _⟩⟩
          case measure => simp [intOf]; omega
        · rw [he] at hnx hokn
          by_cases hk0 : 0 < k
          · have d0 : decide ((0 : Int) < (k : Int)) = true := decide_eq_true (by omega)
            have d0' : decide (0 < k) = true := decide_eq_true hk0
            rw [if_pos hk0, if_pos hk0] at hnx hokn
            clear he hn hlt o1 o2 o3 o4
            go_wp2
            go_roundw
            case rel => exact ⟨k + 1, by omega, by go_num, _, ⟨hnx.out.symm⟩, hokn, rfl, rfl, rfl, ⟨hS0.out _⟩, ⟨hHs.out _ _⟩, ⟨hEs.out _ _⟩⟩
            case measure => simp [intOf]; omega
          · have d0 : decide ((0 : Int) < (k : Int)) = false := decide_eq_false (by omega)
            have d0' : decide (0 < k) = false := decide_eq_false hk0
            rw [if_neg hk0, if_neg hk0] at hnx hokn
            clear he hn hlt o1 o2 o3 o4
            go_wp2
            go_roundw
            case rel => exact ⟨k + 1, by omega, by go_num, _, ⟨hnx.out.symm⟩, hokn, rfl, rfl, rfl, hWn, hH, hE⟩
            case measure => simp [intOf]; omega
        · rw [he] at hnx hokn
          by_cases hk0 : 0 < k
          · have d0 : decide ((0 : Int) < (k : Int)) = true := decide_eq_true (by omega)
            have d0' : decide (0 < k) = true := decide_eq_true hk0
            rw [if_pos hk0, if_pos hk0] at hnx hokn
            clear he hn hlt o1 o2 o3 o4
            go_wp2
            go_roundw
            case rel => exact ⟨k + 1, by omega, by go_num, _, ⟨hnx.out.symm⟩, hokn, rfl, rfl, rfl, ⟨hS0.out _⟩, ⟨hHs.out _ _⟩, ⟨hEs.out _ _⟩⟩
            case measure => simp [intOf]; omega
          · have d0 : decide ((0 : Int) < (k : Int)) = false := decide_eq_false (by omega)
            have d0' : decide (0 < k) = false := decide_eq_false hk0
            rw [if_neg hk0, if_neg hk0] at hnx hokn
            clear he hn hlt o1 o2 o3 o4
            go_wp2
            go_roundw
            case rel => exact ⟨k + 1, by omega, by go_num, _, ⟨hnx.out.symm⟩, hokn, rfl, rfl, rfl, hWn, hH, hE⟩
            case measure => simp [intOf]; omega
        · rw [he] at hnx hokn
          have f1 : ((c.toNat : Int) == 105) = false := by rw [beq_eq_false_iff_ne]; intro h; exact h1 (UInt8.toNat_inj.1 (by show c.toNat = 105; omega))
          have f2 : ((c.toNat : Int) == 43) = false := by rw [beq_eq_false_iff_ne]; intro h; exact h2 (UInt8.toNat_inj.1 (by show c.toNat = 43; omega))
          have f3 : ((c.toNat : Int) == 45) = false := by rw [beq_eq_false_iff_ne]; intro h; exact h3 (UInt8.toNat_inj.1 (by show c.toNat = 45; omega))
          have key : decide (48 ≤ (c.toNat : Int)) = false ∨ (decide (48 ≤ (c.toNat : Int)) = true ∧ decide ((c.toNat : Int) ≤ 57) = false) ∨ (decide (48 ≤ (c.toNat : Int)) = true ∧ decide ((c.toNat : Int) ≤ 57) = true ∧ decide ((x.n : Int) < 100000000) = false) := by
            simp only [decide_eq_true_eq, decide_eq_false_iff_not]; omega
          clear he hn hlt o1 o2 o3 o4 h1 h2 h3
          rcases key with e1 | ⟨e1, e2⟩ | ⟨e1, e2, e3⟩
          all_goals
            go_wp2
            go_roundw
            case rel => exact ⟨k + 1, by omega, by go_num, x, ⟨hnx.out.symm⟩, hokn, rfl, rfl, rfl, hWn, hH, hE⟩
            case measure => simp [intOf]; omega
      · obtain rfl : k = s.size := by omega
        have d3 : decide ((s.size : Int) < (s.size : Int)) = false := decide_eq_false (by omega)
        have hall : Box (x = scan 0 s.data.toList sc0) := ⟨by rw [hxs.out]; congr 1; exact List.take_of_length_le (Nat.le_refl _)⟩
        obtain ⟨⟨m0, m1⟩, -⟩ := gz hWn.out
        obtain ⟨⟨o0, o1⟩, -⟩ := gz hH.out
        have hxe := hE.out
        have cV2 : Box (∀ w, _) := ⟨fun w => lvalid_one x.re x.im w⟩
        have qz : ∀ w : World, (Op.equalIn 10000 23 (.agg #[.int .i64 (0), .int .i64 (0)]) (.agg #[.int .i64 (0), .int .i64 (0)])).run Tryd.prog w = .ok true w := fun w => eqG 0 0 w
        rcases HF.out with ⟨rfl, r1, r2, ha, hgb, hst⟩ | ⟨rfl, rfl, rfl, hno⟩
        · rw [← hall.out] at r1 r2 ha
          subst r1 r2
          have hg2 := gB_iff.1 hgb
          have cT2 : Box (∀ w, Calls Tryd.prog 12 #[(.agg #[.int .i64 (x.re), .int .i64 (x.im)])] w fun e w' => e = .returned (.string s) ∧ Ext w w') := ⟨fun w => by
            have h := ltext_any x.re x.im hg2.1 hg2.2 w
            rw [← hst] at h
            exact h⟩
          rw [hgb] at cV2
          have da : decide ((0 : Int) < (x.at_ : Int)) = true := decide_eq_true (by omega)
          have da' : decide (0 < x.at_) = true := decide_eq_true ha
          have es : (s.toList == s.toList) = true := by simp
          have qe2 : ∀ w : World, (Op.equalIn 10000 23 (.agg #[.int .i64 (x.re), .int .i64 (x.im)]) (.agg #[.int .i64 (x.re), .int .i64 (x.im)])).run Tryd.prog w = .ok true w := fun w => eqG x.re x.im w
          clear hst hgb hg2 ha hall hxs hok HF
          generalize x.re = xr at *
          generalize x.im = xi at *
          go_wp2_with (first
            | (go_at_call 10; (with_reducible refine (cV2.out _).mono ?_); rintro e w6 ⟨rfl, hb⟩; have hxe := Ext.trans' hxe hb; have m0 := Ext.cell hb m0; have m1 := Ext.cell hb m1; have o0 := Ext.cell hb o0; have o1 := Ext.cell hb o1)
            | (go_at_call 12; (with_reducible refine (cT2.out _).mono ?_); rintro e w7 ⟨rfl, hb⟩; have hxe := Ext.trans' hxe hb; have m0 := Ext.cell hb m0; have m1 := Ext.cell hb m1; have o0 := Ext.cell hb o0; have o1 := Ext.cell hb o1)
            | (go_at_call 8; (with_reducible refine (ck.out _ hxe).mono ?_); rintro e w8 ⟨rfl, hb⟩; have hxe := Ext.trans' hxe hb))
          go_ret
          exact ⟨rfl, hxe⟩
        · have key : (decide ((0 : Int) < (x.at_ : Int)) = false ∧ decide (0 < x.at_) = false) ∨ (decide ((0 : Int) < (x.at_ : Int)) = true ∧ decide (0 < x.at_) = true ∧ gB x.re x.im = false) ∨ (decide ((0 : Int) < (x.at_ : Int)) = true ∧ decide (0 < x.at_) = true ∧ gB x.re x.im = true ∧ ∃ Y : ByteArray, (Y.toList == s.toList) = false ∧ Box (∀ w, Calls Tryd.prog 12 #[(.agg #[.int .i64 (x.re), .int .i64 (x.im)])] w fun e w' => e = .returned (.string Y) ∧ Ext w w')) := by
            by_cases h0 : 0 < x.at_
            · have h0' : (0 : Int) < (x.at_ : Int) := by omega
              cases hgb : gB x.re x.im with
              | false => exact Or.inr (Or.inl ⟨decide_eq_true h0', decide_eq_true h0, rfl⟩)
              | true =>
                have hg2 := gB_iff.1 hgb
                exact Or.inr (Or.inr ⟨decide_eq_true h0', decide_eq_true h0, rfl, ⟨(textG x.re x.im).toArray⟩, by
                  rw [beq_eq_false_iff_ne]
                  intro h
                  rw [Lib.toList_data, Lib.toList_data] at h
                  exact hno x.re x.im hgb (by apply ByteArray.ext; exact (Array.ext' h).symm), ⟨fun w => ltext_any x.re x.im hg2.1 hg2.2 w⟩⟩)
            · exact Or.inl ⟨decide_eq_false (by omega), decide_eq_false h0⟩
          clear hall hxs hok HF hno
          generalize x.re = xr at *
          generalize x.im = xi at *
          rcases key with ⟨da, da'⟩ | ⟨da, da', hgb⟩ | ⟨da, da', hgb, Y, hY, cT2⟩
          · go_wp2_with (first
              | (go_at_call 8; (with_reducible refine (ck.out _ hxe).mono ?_); rintro e w8 ⟨rfl, hb⟩; have hxe := Ext.trans' hxe hb))
            go_ret
            exact ⟨rfl, hxe⟩
          · rw [hgb] at cV2
            clear hgb
            go_wp2_with (first
              | (go_at_call 10; (with_reducible refine (cV2.out _).mono ?_); rintro e w6 ⟨rfl, hb⟩; have hxe := Ext.trans' hxe hb; have m0 := Ext.cell hb m0; have m1 := Ext.cell hb m1; have o0 := Ext.cell hb o0; have o1 := Ext.cell hb o1)
              | (go_at_call 8; (with_reducible refine (ck.out _ hxe).mono ?_); rintro e w8 ⟨rfl, hb⟩; have hxe := Ext.trans' hxe hb))
            go_ret
            exact ⟨rfl, hxe⟩
          · rw [hgb] at cV2
            clear hgb
            go_wp2_with (first
              | (go_at_call 10; (with_reducible refine (cV2.out _).mono ?_); rintro e w6 ⟨rfl, hb⟩; have hxe := Ext.trans' hxe hb; have m0 := Ext.cell hb m0; have m1 := Ext.cell hb m1; have o0 := Ext.cell hb o0; have o1 := Ext.cell hb o1)
              | (go_at_call 12; (with_reducible refine (cT2.out _).mono ?_); rintro e w7 ⟨rfl, hb⟩; have hxe := Ext.trans' hxe hb; have m0 := Ext.cell hb m0; have m1 := Ext.cell hb m1; have o0 := Ext.cell hb o0; have o1 := Ext.cell hb o1)
              | (go_at_call 8; (with_reducible refine (ck.out _ hxe).mono ?_); rintro e w8 ⟨rfl, hb⟩; have hxe := Ext.trans' hxe hb))
            go_ret
            exact ⟨rfl, hxe⟩
  · rw [hg] at cV
    clear hg PR
    go_enter Tryd.func3, Tryd.ntmps3
    go_wp2_with (first
      | (go_at_call 9; (with_reducible refine (cT.out _).mono ?_); rintro e w1 ⟨rfl, hb⟩; have hxe := Ext.trans' hxe hb; have hB := Ext.blk hb hB; clear g0 g1; obtain ⟨⟨g0, g1⟩, -⟩ := gz hB)
      | (go_at_call 10; (with_reducible refine (cV.out _).mono ?_); rintro e w1 ⟨rfl, hb⟩; have hxe := Ext.trans' hxe hb; have hB := Ext.blk hb hB; clear g0 g1; obtain ⟨⟨g0, g1⟩, -⟩ := gz hB)
      | (go_at_call 11; (with_reducible refine (cP.out _ hxe).mono ?_); rintro e w4 ⟨rfl, hb⟩; have hH := newblk w4 (.cells #[.int .i64 (hx), .int .i64 (hy)] 23); have hb := Ext.trans' hb (Ext.alloc (Below.refl _ w4) (.cells #[.int .i64 (hx), .int .i64 (hy)] 23)); have hxe := Ext.trans' hxe hb))
    have zs : (w4.alloc (.cells #[.int .i64 (hx), .int .i64 (hy)] 23)).heap.size = w4.heap.size + 1 := by simp
    have hW0 : Box (((w4.alloc (.cells #[.int .i64 (hx), .int .i64 (hy)] 23)).alloc (.cells #[.int .i64 (0), .int .i64 (0)] 23)).heap[w4.heap.size + 1]? = some (.cells #[.int .i64 (0), .int .i64 (0)] 23)) := ⟨by rw [← zs]; exact newblk _ _⟩
    have hH2 : Box (((w4.alloc (.cells #[.int .i64 (hx), .int .i64 (hy)] 23)).alloc (.cells #[.int .i64 (0), .int .i64 (0)] 23)).heap[w4.heap.size]? = some (.cells #[.int .i64 (hx), .int .i64 (hy)] 23)) := ⟨Ext.blk (Ext.alloc (Below.refl _ _) _) hH⟩
    have hE2 : Box (Ext W ((w4.alloc (.cells #[.int .i64 (hx), .int .i64 (hy)] 23)).alloc (.cells #[.int .i64 (0), .int .i64 (0)] 23))) := ⟨Ext.alloc hxe _⟩
    have hWs : W.heap.size ≤ w4.heap.size + 1 := by rw [← zs]; exact hxe.size
    clear hH hxe zs hb
    generalize w4.heap.size = Hb at *
    generalize (w4.alloc (.cells #[.int .i64 (hx), .int .i64 (hy)] 23)).alloc (.cells #[.int .i64 (0), .int .i64 (0)] 23) = wk at *
    go_loopw [11, 12, 13, 14] (fun nv sv av iv wr => ∃ k : Nat, k ≤ s.size ∧ iv = .int .i64 k ∧ ∃ x : Sc, Box (x = scan 0 (s.data.toList.take k) sc0) ∧ Box (ScOk x) ∧ nv = .int .i64 x.n ∧ sv = .int .i64 x.sg ∧ av = .int .i64 x.at_ ∧ Box (wr.heap[Hb + 1]? = some (.cells #[.int .i64 (x.re), .int .i64 (x.im)] 23)) ∧ Box (wr.heap[Hb]? = some (.cells #[.int .i64 (hx), .int .i64 (hy)] 23)) ∧ Box (Ext W wr)) (fun _ _ _ iv _ => s.size - (intOf iv).toNat)
    case atStart => exact ⟨0, by omega, rfl, sc0, ⟨rfl⟩, ⟨⟨by decide, by decide, by decide, Or.inl rfl⟩⟩, rfl, rfl, rfl, hW0, hH2, hE2⟩
    case round =>
      clear hW0 hH2 hE2
      obtain ⟨k, hk, rfl, x, hxs, hok, rfl, rfl, rfl, hWn, hH, hE⟩ := hrel
      by_cases hkn : k < s.size
      · have n1 : (0 : Int) ≤ (k : Int) := by omega
        have n2 : (k : Int) < (s.size : Int) := by omega
        have n2' : decide ((k : Int) < (s.size : Int)) = true := decide_eq_true n2
        have n3' : decide (k < s.size) = true := decide_eq_true hkn
        have hg : ∀ h, s[k]'h = s.data.toList.getD k 0 := fun h => get_getD s k h
        have hnx : Box (scan 0 (s.data.toList.take (k + 1)) sc0 = sc1 k (s.data.toList.getD k 0) x) := ⟨by rw [hxs.out]; exact scan_take _ k hkn _⟩
        have hways := sc_ways k (s.data.toList.getD k 0) x
        have hokn : Box (ScOk (sc1 k (s.data.toList.getD k 0) x)) := ⟨sc1_ok hok.out⟩
        obtain ⟨⟨m0, m1⟩, z0, z1⟩ := gz hWn.out
        obtain ⟨o1, o2, o3, o4⟩ := hok.out
        have wsn : IntKind.i64.wrap (x.sg * x.n) = x.sg * x.n := by rcases o4 with h | h <;> rw [h, IntKind.wrap_i64] <;> omega
        generalize s.data.toList.getD k 0 = c at *
        have hlt := c.toNat_lt
        have hS0 : Box (∀ v, (wr.setCell ⟨Hb + 1, 0, none⟩ (.int .i64 v)).heap[Hb + 1]? = some (.cells #[.int .i64 (v), .int .i64 (x.im)] 23)) := ⟨fun v => heap_setCell_same _ (Hb + 1) 0 _ _ _ hWn.out⟩
        have hS1 : Box (∀ v, (wr.setCell ⟨Hb + 1, 1, none⟩ (.int .i64 v)).heap[Hb + 1]? = some (.cells #[.int .i64 (x.re), .int .i64 (v)] 23)) := ⟨fun v => heap_setCell_same _ (Hb + 1) 1 _ _ _ hWn.out⟩
        have hHs : Box (∀ o v, (wr.setCell ⟨Hb + 1, o, none⟩ v).heap[Hb]? = some (.cells #[.int .i64 (hx), .int .i64 (hy)] 23)) := ⟨fun o v => (heap_setCell_other _ _ _ _ (by show Hb ≠ Hb + 1; omega)).trans hH.out⟩
        have hEs : Box (∀ o v, Ext W (wr.setCell ⟨Hb + 1, o, none⟩ v)) := ⟨fun o v => Ext.set hE.out hWs _ _⟩
        rcases hways with ⟨⟨e1, e2, e3, e4, e5⟩, he⟩ | ⟨hn, rfl, he⟩ | ⟨hn, rfl, he⟩ | ⟨hn, rfl, he⟩ | ⟨hn, h1, h2, h3, he⟩
        · have q1 : IntKind.u8.wrap ((c.toNat : Int) - 48) = ((c.toNat - 48 : Nat) : Int) := by rw [IntKind.wrap_u8]; omega
          have q2 : IntKind.i64.wrap ((c.toNat - 48 : Nat) : Int) = ((c.toNat - 48 : Nat) : Int) := by rw [IntKind.wrap_i64]; omega
          have q3 : IntKind.i64.wrap (10 * (x.n : Int)) = 10 * (x.n : Int) := by rw [IntKind.wrap_i64]; omega
          have q4 : IntKind.i64.wrap (10 * (x.n : Int) + ((c.toNat - 48 : Nat) : Int)) = ((10 * x.n + (c.toNat - 48) : Nat) : Int) := by rw [IntKind.wrap_i64]; omega
          obtain ⟨q5, q6⟩ : wrap64 ((c.toNat - 48 : Nat) : Int) = ((c.toNat - 48 : Nat) : Int) ∧ wrap64 (10 * (x.n : Int)) = 10 * (x.n : Int) := by unfold wrap64; omega
          rw [he] at hnx hokn
          clear he e4 e5 hlt o1 o2 o3 o4
          go_wp2
          go_roundw
          case rel => exact ⟨k + 1, by omega, by go_num, _, ⟨hnx.out.symm⟩, hokn, rfl, rfl, rfl, hWn, hH, hE⟩
          case measure => simp [intOf]; omega
        · rw [he] at hnx hokn
          clear he hn hlt o1 o2 o3 o4
          go_wp2
          go_roundw
          case rel => exact ⟨k + 1, by omega, by go_num, _, ⟨hnx.out.symm⟩, hokn, rfl, rfl, rfl, ⟨hS1.out _⟩, ⟨hHs.out _ _⟩, ⟨hEs.out _ _⟩⟩
          case measure => simp [intOf]; omega
        · rw [he] at hnx hokn
          by_cases hk0 : 0 < k
          · have d0 : decide ((0 : Int) < (k : Int)) = true := decide_eq_true (by omega)
            have d0' : decide (0 < k) = true := decide_eq_true hk0
            rw [if_pos hk0, if_pos hk0] at hnx hokn
            clear he hn hlt o1 o2 o3 o4
            go_wp2
            go_roundw
            case rel => exact ⟨k + 1, by omega, by go_num, _, ⟨hnx.out.symm⟩, hokn, rfl, rfl, rfl, ⟨hS0.out _⟩, ⟨hHs.out _ _⟩, ⟨hEs.out _ _⟩⟩
            case measure => simp [intOf]; omega
          · have d0 : decide ((0 : Int) < (k : Int)) = false := decide_eq_false (by omega)
            have d0' : decide (0 < k) = false := decide_eq_false hk0
            rw [if_neg hk0, if_neg hk0] at hnx hokn
            clear he hn hlt o1 o2 o3 o4
            go_wp2
            go_roundw
            case rel => exact ⟨k + 1, by omega, by go_num, _, ⟨hnx.out.symm⟩, hokn, rfl, rfl, rfl, hWn, hH, hE⟩
            case measure => simp [intOf]; omega
        · rw [he] at hnx hokn
          by_cases hk0 : 0 < k
          · have d0 : decide ((0 : Int) < (k : Int)) = true := decide_eq_true (by omega)
            have d0' : decide (0 < k) = true := decide_eq_true hk0
            rw [if_pos hk0, if_pos hk0] at hnx hokn
            clear he hn hlt o1 o2 o3 o4
            go_wp2
            go_roundw
            case rel => exact ⟨k + 1, by omega, by go_num, _, ⟨hnx.out.symm⟩, hokn, rfl, rfl, rfl, ⟨hS0.out _⟩, ⟨hHs.out _ _⟩, ⟨hEs.out _ _⟩⟩
            case measure => simp [intOf]; omega
          · have d0 : decide ((0 : Int) < (k : Int)) = false := decide_eq_false (by omega)
            have d0' : decide (0 < k) = false := decide_eq_false hk0
            rw [if_neg hk0, if_neg hk0] at hnx hokn
            clear he hn hlt o1 o2 o3 o4
            go_wp2
            go_roundw
            case rel => exact ⟨k + 1, by omega, by go_num, _, ⟨hnx.out.symm⟩, hokn, rfl, rfl, rfl, hWn, hH, hE⟩
            case measure => simp [intOf]; omega
        · rw [he] at hnx hokn
          have f1 : ((c.toNat : Int) == 105) = false := by rw [beq_eq_false_iff_ne]; intro h; exact h1 (UInt8.toNat_inj.1 (by show c.toNat = 105; omega))
          have f2 : ((c.toNat : Int) == 43) = false := by rw [beq_eq_false_iff_ne]; intro h; exact h2 (UInt8.toNat_inj.1 (by show c.toNat = 43; omega))
          have f3 : ((c.toNat : Int) == 45) = false := by rw [beq_eq_false_iff_ne]; intro h; exact h3 (UInt8.toNat_inj.1 (by show c.toNat = 45; omega))
          have key : decide (48 ≤ (c.toNat : Int)) = false ∨ (decide (48 ≤ (c.toNat : Int)) = true ∧ decide ((c.toNat : Int) ≤ 57) = false) ∨ (decide (48 ≤ (c.toNat : Int)) = true ∧ decide ((c.toNat : Int) ≤ 57) = true ∧ decide ((x.n : Int) < 100000000) = false) := by
            simp only [decide_eq_true_eq, decide_eq_false_iff_not]; omega
          clear he hn hlt o1 o2 o3 o4 h1 h2 h3
          rcases key with e1 | ⟨e1, e2⟩ | ⟨e1, e2, e3⟩
          all_goals
            go_wp2
            go_roundw
            case rel => exact ⟨k + 1, by omega, by go_num, x, ⟨hnx.out.symm⟩, hokn, rfl, rfl, rfl, hWn, hH, hE⟩
            case measure => simp [intOf]; omega
      · obtain rfl : k = s.size := by omega
        have d3 : decide ((s.size : Int) < (s.size : Int)) = false := decide_eq_false (by omega)
        have hall : Box (x = scan 0 s.data.toList sc0) := ⟨by rw [hxs.out]; congr 1; exact List.take_of_length_le (Nat.le_refl _)⟩
        obtain ⟨⟨m0, m1⟩, -⟩ := gz hWn.out
        obtain ⟨⟨o0, o1⟩, -⟩ := gz hH.out
        have hxe := hE.out
        have cV2 : Box (∀ w, _) := ⟨fun w => lvalid_one x.re x.im w⟩
        have qz : ∀ w : World, (Op.equalIn 10000 23 (.agg #[.int .i64 (0), .int .i64 (0)]) (.agg #[.int .i64 (0), .int .i64 (0)])).run Tryd.prog w = .ok true w := fun w => eqG 0 0 w
        rcases HF.out with ⟨rfl, r1, r2, ha, hgb, hst⟩ | ⟨rfl, rfl, rfl, hno⟩
        · rw [← hall.out] at r1 r2 ha
          subst r1 r2
          have hg2 := gB_iff.1 hgb
          have cT2 : Box (∀ w, Calls Tryd.prog 12 #[(.agg #[.int .i64 (x.re), .int .i64 (x.im)])] w fun e w' => e = .returned (.string s) ∧ Ext w w') := ⟨fun w => by
            have h := ltext_any x.re x.im hg2.1 hg2.2 w
            rw [← hst] at h
            exact h⟩
          rw [hgb] at cV2
          have da : decide ((0 : Int) < (x.at_ : Int)) = true := decide_eq_true (by omega)
          have da' : decide (0 < x.at_) = true := decide_eq_true ha
          have es : (s.toList == s.toList) = true := by simp
          have qe2 : ∀ w : World, (Op.equalIn 10000 23 (.agg #[.int .i64 (x.re), .int .i64 (x.im)]) (.agg #[.int .i64 (x.re), .int .i64 (x.im)])).run Tryd.prog w = .ok true w := fun w => eqG x.re x.im w
          clear hst hgb hg2 ha hall hxs hok HF
          generalize x.re = xr at *
          generalize x.im = xi at *
          go_wp2_with (first
            | (go_at_call 10; (with_reducible refine (cV2.out _).mono ?_); rintro e w6 ⟨rfl, hb⟩; have hxe := Ext.trans' hxe hb; have m0 := Ext.cell hb m0; have m1 := Ext.cell hb m1; have o0 := Ext.cell hb o0; have o1 := Ext.cell hb o1)
            | (go_at_call 12; (with_reducible refine (cT2.out _).mono ?_); rintro e w7 ⟨rfl, hb⟩; have hxe := Ext.trans' hxe hb; have m0 := Ext.cell hb m0; have m1 := Ext.cell hb m1; have o0 := Ext.cell hb o0; have o1 := Ext.cell hb o1)
            | (go_at_call 8; (with_reducible refine (ck.out _ hxe).mono ?_); rintro e w8 ⟨rfl, hb⟩; have hxe := Ext.trans' hxe hb))
          go_ret
          exact ⟨rfl, hxe⟩
        · have key : (decide ((0 : Int) < (x.at_ : Int)) = false ∧ decide (0 < x.at_) = false) ∨ (decide ((0 : Int) < (x.at_ : Int)) = true ∧ decide (0 < x.at_) = true ∧ gB x.re x.im = false) ∨ (decide ((0 : Int) < (x.at_ : Int)) = true ∧ decide (0 < x.at_) = true ∧ gB x.re x.im = true ∧ ∃ Y : ByteArray, (Y.toList == s.toList) = false ∧ Box (∀ w, Calls Tryd.prog 12 #[(.agg #[.int .i64 (x.re), .int .i64 (x.im)])] w fun e w' => e = .returned (.string Y) ∧ Ext w w')) := by
            by_cases h0 : 0 < x.at_
            · have h0' : (0 : Int) < (x.at_ : Int) := by omega
              cases hgb : gB x.re x.im with
              | false => exact Or.inr (Or.inl ⟨decide_eq_true h0', decide_eq_true h0, rfl⟩)
              | true =>
                have hg2 := gB_iff.1 hgb
                exact Or.inr (Or.inr ⟨decide_eq_true h0', decide_eq_true h0, rfl, ⟨(textG x.re x.im).toArray⟩, by
                  rw [beq_eq_false_iff_ne]
                  intro h
                  rw [Lib.toList_data, Lib.toList_data] at h
                  exact hno x.re x.im hgb (by apply ByteArray.ext; exact (Array.ext' h).symm), ⟨fun w => ltext_any x.re x.im hg2.1 hg2.2 w⟩⟩)
            · exact Or.inl ⟨decide_eq_false (by omega), decide_eq_false h0⟩
          clear hall hxs hok HF hno
          generalize x.re = xr at *
          generalize x.im = xi at *
          rcases key with ⟨da, da'⟩ | ⟨da, da', hgb⟩ | ⟨da, da', hgb, Y, hY, cT2⟩
          · go_wp2_with (first
              | (go_at_call 8; (with_reducible refine (ck.out _ hxe).mono ?_); rintro e w8 ⟨rfl, hb⟩; have hxe := Ext.trans' hxe hb))
            go_ret
            exact ⟨rfl, hxe⟩
          · rw [hgb] at cV2
            clear hgb
            go_wp2_with (first
              | (go_at_call 10; (with_reducible refine (cV2.out _).mono ?_); rintro e w6 ⟨rfl, hb⟩; have hxe := Ext.trans' hxe hb; have m0 := Ext.cell hb m0; have m1 := Ext.cell hb m1; have o0 := Ext.cell hb o0; have o1 := Ext.cell hb o1)
              | (go_at_call 8; (with_reducible refine (ck.out _ hxe).mono ?_); rintro e w8 ⟨rfl, hb⟩; have hxe := Ext.trans' hxe hb))
            go_ret
            exact ⟨rfl, hxe⟩
          · rw [hgb] at cV2
            clear hgb
            go_wp2_with (first
              | (go_at_call 10; (with_reducible refine (cV2.out _).mono ?_); rintro e w6 ⟨rfl, hb⟩; have hxe := Ext.trans' hxe hb; have m0 := Ext.cell hb m0; have m1 := Ext.cell hb m1; have o0 := Ext.cell hb o0; have o1 := Ext.cell hb o1)
              | (go_at_call 12; (with_reducible refine (cT2.out _).mono ?_); rintro e w7 ⟨rfl, hb⟩; have hxe := Ext.trans' hxe hb; have m0 := Ext.cell hb m0; have m1 := Ext.cell hb m1; have o0 := Ext.cell hb o0; have o1 := Ext.cell hb o1)
              | (go_at_call 8; (with_reducible refine (ck.out _ hxe).mono ?_); rintro e w8 ⟨rfl, hb⟩; have hxe := Ext.trans' hxe hb))
            go_ret
            exact ⟨rfl, hxe⟩
end Go.Proofs.YtbnmnkmjokcmfaaDoor
