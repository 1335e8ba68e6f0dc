import Derived.Test.YtpojemlnhbdfmaaDoorG4
/- The program's Parse of a configuration: the walk. -/
namespace Go.Proofs.YtpojemlnhbdfmaaDoor
open Go.RowKit

set_option maxRecDepth 100000 in
set_option maxHeartbeats 4000000 in
theorem gparse_any (s : ByteArray) (w : World) (hs : s.size ≤ 1000000) (he : EnvG w) :
    Calls Tryd.prog 28 #[.string s] w fun e w' => e = .returned (.tuple #[pcV (parseC s.data.toList), .int .i64 (pcE (parseC s.data.toList))]) ∧ Ext w w' := by
  have cN : Box _ := ⟨fun w1 => numbers_any (w.heap.size + 1) w1⟩
  have cF : Box (∀ w1, Ext w w1 → _) := ⟨fun w1 h => Tryd.strings_Fields_any s w1 (by omega) (he.ext h).spaces (he.ext h).white⟩
  have hx0 : Ext w ((w.alloc (.cells #[.int .i64 0, .int .i64 0, .int .i64 0, .int .u64 0, .bool false] 24)).alloc (.cells #[.int .i64 0, .int .i64 0, .int .i64 0, .int .u64 0, .bool false] 24)) := Ext.alloc (Ext.alloc (Below.refl _ _) _) _
  have hR0 := (Ext.alloc (Below.refl _ (w.alloc (.cells #[.int .i64 0, .int .i64 0, .int .i64 0, .int .u64 0, .bool false] 24))) (.cells #[.int .i64 0, .int .i64 0, .int .i64 0, .int .u64 0, .bool false] 24)).block w.heap.size (by simp)
  rw [newblk] at hR0
  have hC0 := newblk (w.alloc (.cells #[.int .i64 0, .int .i64 0, .int .i64 0, .int .u64 0, .bool false] 24)) (.cells #[.int .i64 0, .int .i64 0, .int .i64 0, .int .u64 0, .bool false] 24)
  rw [show (w.alloc (.cells #[.int .i64 0, .int .i64 0, .int .i64 0, .int .u64 0, .bool false] 24)).heap.size = w.heap.size + 1 by simp] at hC0
  go_enter Tryd.func28, Tryd.ntmps28
  go_wp2_with (first
    | (go_at_call 30; (with_reducible refine (cN.out _).mono ?_); rintro e w1 ⟨rfl, hb1⟩; have hx1 := Ext.trans' hx0 hb1; have hR1 := Ext.blk hb1 hR0; have hC1 := Ext.blk hb1 hC0)
    | (go_at_call 31; (with_reducible refine (cF.out _ (Ext.alloc hx1 _)).mono ?_); rintro e W0 ⟨A, rfl, hA, hown, hb2⟩))
  have hCl : w.heap.size + 1 < w1.heap.size := blk_lt hC1
  have hRl : w.heap.size < w1.heap.size := blk_lt hR1
  have hL1 := newblk w1 (.cells #[.pointer (some ⟨w.heap.size + 1, 0, none⟩), .pointer (some ⟨w.heap.size + 1, 1, none⟩), .pointer (some ⟨w.heap.size + 1, 2, none⟩)] 56)
  have hlen : ∀ p ∈ Lib.fieldsD s.data.toList, p.length ≤ 1000000 := fun p hp => Nat.le_trans (fields_len _ _ hp) hs
  have hLsz : w1.heap.size < W0.heap.size := blk_lt (Ext.blk hb2 hL1)
  have hA' : w1.heap.size + 1 ≤ A := by simpa using hA
  have hPS : PS w W0 w.heap.size (w.heap.size + 1) w1.heap.size A (foldC .zero ((Lib.fieldsD s.data.toList).take 0)) W0 :=
    ⟨Ext.trans' (Ext.alloc hx1 _) hb2, Ext.blk hb2 (Ext.blk (Ext.alloc (Below.refl _ _) _) hR1), Ext.blk hb2 (Ext.blk (Ext.alloc (Below.refl _ _) _) hC1), Ext.blk hb2 hL1, rfl⟩
  have hres : Box (parseC s.data.toList = if chkC (foldC .zero (Lib.fieldsD s.data.toList)) = 0 ∧ textC (foldC .zero (Lib.fieldsD s.data.toList)) = s.data.toList then some (foldC .zero (Lib.fieldsD s.data.toList)) else none) := ⟨rfl⟩
  have hseed := fun k => fold_seed ((Lib.fieldsD s.data.toList).take k) .zero (by decide)
  have hbds := fun k => fold_bds ((Lib.fieldsD s.data.toList).take k) .zero ⟨by decide, by decide, by decide⟩
  have hcells := hown.cellAt
  have hAl : A < W0.heap.size := by
    rcases hown.2 with ⟨h, _⟩ | ⟨g, cap, cur, hv, _, hg, _⟩
    · simp at h
    · simp only [Value.slice.injEq, Option.some.injEq, Addr.mk.injEq, and_true] at hv
      obtain ⟨rfl, _⟩ := hv
      exact blk_lt hg
  generalize Lib.fieldsD s.data.toList = parts at *
  have hCells : Box (∀ j, (h : j < parts.length) → W0.cell? ⟨A, j, none⟩ = some (.string ⟨(parts[j]).toArray⟩)) := ⟨fun j h => by rw [hcells j (by omega)]; simp [h]⟩
  have HP := Box.mk hPS
  have HL := Box.mk hlen
  have HS := Box.mk hseed
  have HB := Box.mk hbds
  have hW0 : A < W0.heap.size := hAl
  have n1 : w.heap.size ≠ w.heap.size + 1 := by omega
  have n2 : w1.heap.size ≠ w.heap.size + 1 := by omega
  have n3 : A ≠ w.heap.size + 1 := by omega
  have n4 : w.heap.size ≤ w.heap.size + 1 := by omega
  have hps : parts.length ≤ 9223372036854775807 := by
    rcases hown.2 with ⟨h, _⟩ | ⟨g, cap, cur, hv, _, _, h1, h2, _⟩
    · simp at h
    · unfold maxLen at h2; omega
  clear hx0 hR0 hC0 hx1 hR1 hC1 hb1 hL1 hb2 hA hown hPS hlen hseed hbds hcells hA' hLsz hCl hRl cF cN hAl
  generalize w1.heap.size = L at *
  generalize w.heap.size + 1 = C at *
  go_loopw [17] (fun i wr => ∃ k : Nat, k ≤ parts.length ∧ i = .int .i64 k ∧ Box (PS w W0 w.heap.size C L A (foldC .zero (parts.take k)) wr)) (fun i _ => parts.length - (intOf i).toNat)
  case atStart => exact ⟨0, by omega, rfl, HP⟩
  case round =>
    obtain ⟨k, hk, rfl, hP⟩ := hrel
    by_cases hlt : k < parts.length
    · obtain ⟨p, hp⟩ : ∃ p, p = parts[k] := ⟨_, rfl⟩
      have hpl : p.length ≤ 1000000 := by rw [hp]; exact HL.out _ (List.getElem_mem _)
      have hcell : wr.cell? ⟨A, k, none⟩ = some (.string ⟨p.toArray⟩) := by rw [heap_cell hP.out.a, hCells.out k hlt, hp]
      have hfold : Box (foldC .zero (parts.take (k + 1)) = stepC (foldC .zero (parts.take k)) p) := ⟨by
        rw [hp, List.take_succ_eq_append_getElem hlt]; unfold foldC; rw [List.foldl_append]; rfl⟩
      clear hp
      rw [step_half] at hfold
      generalize foldC .zero (parts.take k) = c at *
      have cK : Box _ := ⟨fun w1 => xcut_any 61 ⟨p.toArray⟩ w1 (by show p.toArray.size ≤ _; rw [List.size_toArray]; omega)⟩
      rw [show (⟨p.toArray⟩ : ByteArray).data.toList = p from rfl] at cK
      have hwl : (cA 61 p).length ≤ 1000000 := Nat.le_trans (cA_len _ _) hpl
      have hvl : (cZ 61 p).length ≤ 1000000 := Nat.le_trans (cZ_len _ _) hpl
      generalize cA 61 p = wd at *
      generalize cZ 61 p = v at *
      generalize cF 61 p = fd at *
      have cA1 : Box (∀ w1, Ext w w1 → _) := ⟨fun w1 h => gatoi_any ⟨v.toArray⟩ (by show v.toArray.size ≤ _; rw [List.size_toArray]; omega) w1 (he.ext h).env⟩
      have cU1 : Box (∀ w1, Ext w w1 → _) := ⟨fun w1 h => guint_any ⟨v.toArray⟩ (by show v.toArray.size ≤ _; rw [List.size_toArray]; omega) w1 (he.ext h).env⟩
      rw [show (⟨v.toArray⟩ : ByteArray).data.toList = v from rfl] at cA1 cU1
      have hAlt : A < wr.heap.size := lt_of_cell hcell
      obtain ⟨v0, v1, v2⟩ := (he.ext hP.out.ext).word
      go_wp2_with (first
        | (go_at_call 32; (with_reducible refine (cK.out _).mono ?_); rintro e w2 ⟨rfl, hb⟩; have v0 := Ext.cell hb v0; have v1 := Ext.cell hb v1; have v2 := Ext.cell hb v2))
      replace hP := Box.mk (PS.grow hAlt hP.out hb)
      have hAlt := Nat.lt_of_lt_of_le hAlt hb.size
      clear hb hcell v0 v1 v2
      go_loopw [28] (fun i wr => ∃ j : Nat, j ≤ 3 ∧ i = .int .i64 j ∧ A < wr.heap.size ∧ Box (PS w W0 w.heap.size C L A (half c wd v j) wr)) (fun i _ => 3 - (intOf i).toNat)
      case atStart => exact ⟨0, by omega, rfl, hAlt, hP⟩
      case round =>
        clear hP hAlt
        obtain ⟨j, hj, rfl, hAlt, hP⟩ := hrel
        by_cases hj3 : j < 3
        · have ix : ∀ W, (Instr.index 62 (.agg #[.string ⟨#[99, 111, 117, 110, 116]⟩, .string ⟨#[98, 121, 116, 101, 115]⟩, .string ⟨#[112, 114, 111, 116, 101, 99, 116, 101, 100]⟩]) (.int .i64 (j : Int))).run Tryd.prog W = .ok (.string ⟨(wordN j).toArray⟩) W := fun W => by
            obtain rfl | rfl | rfl : j = 0 ∨ j = 1 ∨ j = 2 := by omega
            · exact (index_str3 _ _ _ W).1
            · exact (index_str3 _ _ _ W).2.1
            · exact (index_str3 _ _ _ W).2.2
          have hlj : wr.cell? ⟨L, j, none⟩ = some (.pointer (some ⟨C, j, none⟩)) := by
            obtain rfl | rfl | rfl : j = 0 ∨ j = 1 ∨ j = 2 := by omega
            · exact (blk3 hP.out.l).1
            · exact (blk3 hP.out.l).2.1
            · exact (blk3 hP.out.l).2.2
          have hcj : ∃ u, wr.cell? ⟨C, j, none⟩ = some u := by
            obtain rfl | rfl | rfl : j = 0 ∨ j = 1 ∨ j = 2 := by omega
            · exact ⟨_, (blk5 hP.out.c).1⟩
            · exact ⟨_, (blk5 hP.out.c).2.1⟩
            · exact ⟨_, (blk5 hP.out.c).2.2.1⟩
          have hfz := Lib.frozen_of_heap hP.out.c j
          obtain ⟨u, hu⟩ := hcj
          have hhalf : Box (half c wd v (j + 1) = if wordN j = wd then setN (half c wd v j) v j else half c wd v j) := ⟨rfl⟩
          by_cases hw : wordN j = wd
          · rw [if_pos hw] at hhalf
            have e1 : ((⟨(wordN j).toArray⟩ : ByteArray).toList == (⟨wd.toArray⟩ : ByteArray).toList) = true := by rw [hw]; simp
            clear hw
            generalize half c wd v j = c1 at *
            generalize (⟨(wordN j).toArray⟩ : ByteArray) = q at *
            generalize (⟨wd.toArray⟩ : ByteArray) = wb at *
            have hx := hP.out.ext
            go_wp2
            go_region_held3 (fun w' => w'.cell? ⟨L, j, none⟩ = some (.pointer (some ⟨C, j, none⟩)))
              (first
                | go_keep
                | (exact hlj)
                | (exact (cell_put n2 _ _ _).trans hlj))
              (first
                | (go_at_call 33; refine (cA1.out _ (Ext.drewN hx 1)).mono ?_; rintro e w3 ⟨er, rfl, hb3⟩; have hb3 := Ext.trans' (Ext.drewN (Below.refl wr.heap.size wr) 1) hb3; have hlj := Ext.cell hb3 hlj; have hu := Ext.cell hb3 hu; have hP := Box.mk (PS.grow hAlt hP.out hb3); have hfz := Lib.frozen_of_heap hP.out.c j; have hAlt := Nat.lt_of_lt_of_le hAlt hb3.size))
            all_goals
              go_wp2
              go_roundw
              case rel => exact ⟨j + 1, by omega, by go_num, by simpa using hAlt, by rw [hhalf.out]; exact ⟨hP.out.atoi n4 n1 n2 n3 v j (by omega)⟩⟩
              case measure => simp [intOf]; omega
          · rw [if_neg hw] at hhalf
            have e1 : ((⟨(wordN j).toArray⟩ : ByteArray).toList == (⟨wd.toArray⟩ : ByteArray).toList) = false := by
              rw [Lib.toList_data, Lib.toList_data, beq_eq_false_iff_ne]; exact hw
            clear hw
            generalize half c wd v j = c1 at *
            generalize (⟨(wordN j).toArray⟩ : ByteArray) = q at *
            generalize (⟨wd.toArray⟩ : ByteArray) = wb at *
            go_wp2
            go_roundw
            case rel => exact ⟨j + 1, by omega, by go_num, hAlt, by rw [hhalf.out]; exact hP⟩
            case measure => simp [intOf]; omega
        · obtain rfl : j = 3 := by omega
          have hx := hP.out.ext
          obtain ⟨m0, m1, m2, m3, m4⟩ := blk5 hP.out.c
          have f3 := Lib.frozen_of_heap hP.out.c 3
          have f4 := Lib.frozen_of_heap hP.out.c 4
          by_cases hw : wd = wSeed
          · rw [if_pos hw] at hfold
            have e1 : ((⟨wd.toArray⟩ : ByteArray).toList == [115, 101, 101, 100]) = true := by rw [Lib.toList_data, hw]; rfl
            clear hw
            generalize half c wd v 3 = c1 at *
            generalize (⟨wd.toArray⟩ : ByteArray) = wb at *
            go_wp2_with (first
              | (go_at_call 34; (with_reducible refine (cU1.out _ hx).mono ?_); rintro e w3 ⟨er, rfl, hb3⟩; have m3 := Ext.cell hb3 m3; have hP := Box.mk (PS.grow hAlt hP.out hb3); have f3 := Lib.frozen_of_heap hP.out.c 3; have hAlt := Nat.lt_of_lt_of_le hAlt hb3.size))
            go_roundw
            case rel => exact ⟨k + 1, by omega, by go_num, by rw [hfold.out]; exact ⟨hP.out.put3 n4 n1 n2 n3 _⟩⟩
            case measure => simp [intOf]; omega
          · rw [if_neg hw] at hfold
            have e1 : ((⟨wd.toArray⟩ : ByteArray).toList == [115, 101, 101, 100]) = false := by rw [Lib.toList_data, beq_eq_false_iff_ne]; exact hw
            clear hw
            by_cases hw : wd = wSame
            · rw [if_pos hw] at hfold
              have e2 : ((⟨wd.toArray⟩ : ByteArray).toList == [115, 97, 109, 101]) = true := by rw [Lib.toList_data, hw]; rfl
              have e3 : ((⟨v.toArray⟩ : ByteArray).toList == [121, 101, 115]) = decide (v = wYes) := by
                rw [Lib.toList_data]; show (v == wYes) = _; exact Bool.eq_iff_iff.2 (by simp)
              generalize decide (v = wYes) = b at *
              generalize (⟨v.toArray⟩ : ByteArray) = vb at *
              clear hw
              generalize half c wd v 3 = c1 at *
              generalize (⟨wd.toArray⟩ : ByteArray) = wb at *
              go_wp2
              go_roundw
              case rel => exact ⟨k + 1, by omega, by go_num, by rw [hfold.out]; exact ⟨hP.out.put4 n4 n1 n2 n3 _⟩⟩
              case measure => simp [intOf]; omega
            · rw [if_neg hw] at hfold
              have e2 : ((⟨wd.toArray⟩ : ByteArray).toList == [115, 97, 109, 101]) = false := by rw [Lib.toList_data, beq_eq_false_iff_ne]; exact hw
              clear hw
              generalize half c wd v 3 = c1 at *
              generalize (⟨wd.toArray⟩ : ByteArray) = wb at *
              go_wp2
              go_roundw
              case rel => exact ⟨k + 1, by omega, by go_num, by rw [hfold.out]; exact hP⟩
              case measure => simp [intOf]; omega
    · obtain rfl : k = parts.length := by omega
      have hsd := HS.out parts.length
      have hbd := HB.out parts.length
      rw [List.take_of_length_le (Nat.le_refl _)] at hP hsd hbd
      generalize foldC .zero parts = c at *
      obtain ⟨m0, m1, m2, m3, m4⟩ := blk5 hP.out.c
      obtain ⟨r0, r1, r2, r3, r4⟩ := blk5 hP.out.r
      have hx := hP.out.ext
      obtain ⟨cnt, byt, prot, seed, same⟩ := c
      simp only [Bds] at hbd
      have cV : Box _ := ⟨fun w1 => gvalid_any cnt byt prot seed same w1⟩
      have cT : Box (∀ w1, Ext w w1 → _) := ⟨fun w1 h => gtext_any cnt byt prot seed same w1 (by show seed < 18446744073709551616; have := hsd; unfold never at this; simp only at this; omega) hbd.1 hbd.2.1 hbd.2.2 (he.ext h)⟩
      unfold ok3 at cV
      have hR := hP.out.r
      obtain ⟨f0, f1, f2, f3, f4⟩ := frz5 hR
      clear hsd hbd HS HB HL hCells HP he hP
      by_cases hv : chk3 cnt byt prot = 0
      · rw [decide_eq_true hv] at cV
        by_cases ht : textC ⟨cnt, byt, prot, seed, same⟩ = s.data.toList
        · rw [if_pos ⟨hv, ht⟩] at hres
          have e1 : ((⟨(textC ⟨cnt, byt, prot, seed, same⟩).toArray⟩ : ByteArray).toList == s.toList) = true := by rw [Lib.toList_data, Lib.toList_data, beq_iff_eq]; exact ht
          have e2 : ((⟨(textC ⟨cnt, byt, prot, seed, same⟩).toArray⟩ : ByteArray).toList != s.toList) = false := by rw [bne, e1]; rfl
          generalize (⟨(textC ⟨cnt, byt, prot, seed, same⟩).toArray⟩ : ByteArray) = tx at *
          clear hv ht
          go_wp2_with (first
            | (go_at_call 10; (with_reducible refine (cV.out _).mono ?_); rintro e w3 ⟨rfl, hb⟩; have hx := Ext.trans' hx hb; have m0 := Ext.cell hb m0; have m1 := Ext.cell hb m1; have m2 := Ext.cell hb m2; have m3 := Ext.cell hb m3; have m4 := Ext.cell hb m4; have hR := Ext.blk hb hR; obtain ⟨r0, r1, r2, r3, r4⟩ := blk5 hR; obtain ⟨f0, f1, f2, f3, f4⟩ := frz5 hR)
            | (go_at_call 29; (with_reducible refine (cT.out _ hx).mono ?_); rintro e w3 ⟨rfl, hb⟩; have hx := Ext.trans' hx hb; have m0 := Ext.cell hb m0; have m1 := Ext.cell hb m1; have m2 := Ext.cell hb m2; have m3 := Ext.cell hb m3; have m4 := Ext.cell hb m4; have hR := Ext.blk hb hR; obtain ⟨r0, r1, r2, r3, r4⟩ := blk5 hR; obtain ⟨f0, f1, f2, f3, f4⟩ := frz5 hR))
          obtain ⟨k0, k1, k2, k3, k4⟩ := blk5 (st5 hR (.int .i64 cnt) (.int .i64 byt) (.int .i64 prot) (.int .u64 seed) (.bool same))
          refine bodyPost_ret (v := .tuple #[.agg #[.int .i64 cnt, .int .i64 byt, .int .i64 prot, .int .u64 seed, .bool same], .int .i64 0]) (by simp [results, Tryd.results28, go_sem, k0, k1, k2, k3, k4]) rfl ⟨by rw [hres.out]; rfl, ?_⟩
          exact Ext.st5 hx (Nat.le_refl _) _ _ _ _ _
        · rw [if_neg (fun h => ht h.2)] at hres
          have e1 : ((⟨(textC ⟨cnt, byt, prot, seed, same⟩).toArray⟩ : ByteArray).toList == s.toList) = false := by rw [Lib.toList_data, Lib.toList_data, beq_eq_false_iff_ne]; exact ht
          have e2 : ((⟨(textC ⟨cnt, byt, prot, seed, same⟩).toArray⟩ : ByteArray).toList != s.toList) = true := by rw [bne, e1]; rfl
          generalize (⟨(textC ⟨cnt, byt, prot, seed, same⟩).toArray⟩ : ByteArray) = tx at *
          clear hv ht
          go_wp2_with (first
            | (go_at_call 10; (with_reducible refine (cV.out _).mono ?_); rintro e w3 ⟨rfl, hb⟩; have hx := Ext.trans' hx hb; have m0 := Ext.cell hb m0; have m1 := Ext.cell hb m1; have m2 := Ext.cell hb m2; have m3 := Ext.cell hb m3; have m4 := Ext.cell hb m4; have hR := Ext.blk hb hR; obtain ⟨r0, r1, r2, r3, r4⟩ := blk5 hR; obtain ⟨f0, f1, f2, f3, f4⟩ := frz5 hR)
            | (go_at_call 29; (with_reducible refine (cT.out _ hx).mono ?_); rintro e w3 ⟨rfl, hb⟩; have hx := Ext.trans' hx hb; have m0 := Ext.cell hb m0; have m1 := Ext.cell hb m1; have m2 := Ext.cell hb m2; have m3 := Ext.cell hb m3; have m4 := Ext.cell hb m4; have hR := Ext.blk hb hR; obtain ⟨r0, r1, r2, r3, r4⟩ := blk5 hR; obtain ⟨f0, f1, f2, f3, f4⟩ := frz5 hR))
          obtain ⟨k0, k1, k2, k3, k4⟩ := blk5 (st5 hR (.int .i64 0) (.int .i64 0) (.int .i64 0) (.int .u64 0) (.bool false))
          refine bodyPost_ret (v := .tuple #[.agg #[.int .i64 0, .int .i64 0, .int .i64 0, .int .u64 0, .bool false], .int .i64 6]) (by simp [results, Tryd.results28, go_sem, k0, k1, k2, k3, k4]) rfl ⟨by rw [hres.out]; rfl, ?_⟩
          exact Ext.st5 hx (Nat.le_refl _) _ _ _ _ _
      · rw [if_neg (fun h => hv h.1)] at hres
        rw [decide_eq_false hv] at cV
        clear hv cT
        go_wp2_with (first
            | (go_at_call 10; (with_reducible refine (cV.out _).mono ?_); rintro e w3 ⟨rfl, hb⟩; have hx := Ext.trans' hx hb; have m0 := Ext.cell hb m0; have m1 := Ext.cell hb m1; have m2 := Ext.cell hb m2; have m3 := Ext.cell hb m3; have m4 := Ext.cell hb m4; have hR := Ext.blk hb hR; obtain ⟨r0, r1, r2, r3, r4⟩ := blk5 hR; obtain ⟨f0, f1, f2, f3, f4⟩ := frz5 hR)
            | (go_at_call 29; (with_reducible refine (cT.out _ hx).mono ?_); rintro e w3 ⟨rfl, hb⟩; have hx := Ext.trans' hx hb; have m0 := Ext.cell hb m0; have m1 := Ext.cell hb m1; have m2 := Ext.cell hb m2; have m3 := Ext.cell hb m3; have m4 := Ext.cell hb m4; have hR := Ext.blk hb hR; obtain ⟨r0, r1, r2, r3, r4⟩ := blk5 hR; obtain ⟨f0, f1, f2, f3, f4⟩ := frz5 hR))
        obtain ⟨k0, k1, k2, k3, k4⟩ := blk5 (st5 hR (.int .i64 0) (.int .i64 0) (.int .i64 0) (.int .u64 0) (.bool false))
        refine bodyPost_ret (v := .tuple #[.agg #[.int .i64 0, .int .i64 0, .int .i64 0, .int .u64 0, .bool false], .int .i64 6]) (by simp [results, Tryd.results28, go_sem, k0, k1, k2, k3, k4]) rfl ⟨by rw [hres.out]; rfl, ?_⟩
        exact Ext.st5 hx (Nat.le_refl _) _ _ _ _ _
end Go.Proofs.YtpojemlnhbdfmaaDoor
