import Derived.Test.YtapngkjgagapeaaDoorE10
/- Contracts of the digits that are read: decode, where it reads pairs. -/
namespace Go.Proofs.YtapngkjgagapeaaDoor
open Go.RowKit

theorem index_at (s : ByteArray) (k : Nat) (h : k < s.size) (w : World) : (Instr.index 9 (.string s) (.int .i64 (k : Int))).run Tryd.prog w = .ok (.int .u8 (s[k].toNat : Int)) w := by
  go_simp

theorem ownsRow_drewN {w : World} {base : Nat} {e : TypeId} {size : Nat} {v : Value} {n : Nat} {xs : List Value} (h : w.ownsRow base e size v n xs) (q : Nat) : (w.drewN q).ownsRow base e size v n xs := by
  refine ⟨h.1, ?_⟩
  rcases h.2 with h2 | ⟨g, cap, cur, hv, hb1, hg, r⟩
  · exact Or.inl h2
  · exact Or.inr ⟨g, cap, cur, hv, hb1, by simpa using hg, r⟩

set_option maxRecDepth 100000 in
set_option maxHeartbeats 4000000 in
theorem decode_even (s : ByteArray) (w : World) (hs : s.size ≤ 1000000) (h1 : s.data.toList ≠ [45]) (h0 : s.size ≠ 0) (h2 : ¬ s.size % 2 = 1) :
    Calls Tryd.prog 72 #[.string s] w (DecPost w s.data.toList) := by
  obtain ⟨W1, hW, hx, hT⟩ : ∃ W1, (w.alloc (.cells Tryd.zeroCells130 130)).setRow w.heap.size tabC = W1 ∧ Ext w W1 ∧ W1.heap[w.heap.size]? = some (.cells tabC 130 (0, 0)) :=
    ⟨_, rfl, setrow_ext _ _ _ _, setRow_heap _ _ _ _ _ _ (newblk w _)⟩
  have HW := Box.mk hW
  have HT := Box.mk hT
  have hB1 := blk_lt hT
  clear hW hT
  have e1 := ne_test s _ h1
  have e2 : ((s.size : Int) == 0) = false := by rw [beq_eq_false_iff_ne]; omega
  have e3 : ((s.size : Int) % 2 != 0) = false := by rw [bne_eq_false_iff_eq]; omega
  have hd : Box (decL s.data.toList = decP s.data.toList) := ⟨decL_even _ (by rw [lst_len]; omega) (fun e => h0 (by rw [← lst_len, e]; rfl))⟩
  obtain ⟨i0, hi, hz0, hz1, hz2⟩ := info_parts infoByte
  have H2 : Box (s.size % 2 = 0) := ⟨by omega⟩
  clear h1 h2 h0
  go_enter Tryd.func72, Tryd.ntmps72
  go_wp2_with (first
    | (refine wpList_store_row rfl 130 (.tmp 4) (.tmp 9) rfl w.heap.size tabC rfl rfl 130 Tryd.zeroCells130 (newblk w _) (by rw [tabC_size]; exact info256) (by rw [tabC_size]; exact zero256) tabC_one ?_; rw [HW.out])
    | (refine wpList_make_own _ rfl _ _ 24 rfl w.heap.size 5 i0 (.int .u8 0) 1 Tryd.underlying24 hi hz0 hz1 .i64 .i64 _ (s.size / 2) rfl rfl (by omega) (by rw [hz2]; omega) (by unfold maxLen; omega) hx.size ?_; intro w1 hown1 hgrow1))
  have hx1 : Ext w w1 := Below.grown hx hgrow1 hx.size (fun j hj => by cases hj)
  have hT1 : w1.heap[w.heap.size]? = some (.cells tabC 130 (0, 0)) := (hgrow1.block _ hB1 (by simp)).trans HT.out
  clear hx hgrow1
  go_loopw [5, 6] (fun v i wr => ∃ (k : Nat) (r : List UInt8), 2 * k ≤ s.size ∧ i = .int .i64 (2 * (k : Int)) ∧ r.length = k ∧ Box (decP s.data.toList = mapR r (decP (s.data.toList.drop (2 * k)))) ∧ wr.ownsRow w.heap.size 5 1 v k ((nums r).map (Value.int .u8)) ∧ Ext w wr ∧ wr.heap[w.heap.size]? = some (.cells tabC 130 (0, 0))) (fun _ i _ => s.size - (intOf i).toNat)
  case atStart => exact ⟨0, [], by omega, rfl, rfl, ⟨by simp [mapR]⟩, hown1, hx1, hT1⟩
  case round =>
    obtain ⟨k, r, hk, rfl, hr, hp, hown, hx, hT⟩ := hrel
    by_cases hlt : 2 * k < s.size
    · have hlt2 : 2 * k + 1 < s.size := by have := H2.out; omega
      have d1 := drop_cons s (2 * k) hlt
      have d2 := drop_cons s (2 * k + 1) hlt2
      have ca : wr.cell? ⟨w.heap.size, s[2 * k].toNat, none⟩ = some (.int .i8 ((unhx s[2 * k] : Nat) : Int)) := by rw [Lib.cell_of_heap hT]; exact tabC_at _
      have cb : wr.cell? ⟨w.heap.size, s[2 * k + 1].toNat, none⟩ = some (.int .i8 ((unhx s[2 * k + 1] : Nat) : Int)) := by rw [Lib.cell_of_heap hT]; exact tabC_at _
      have ix1 : ∀ w, (Instr.index 9 (.string s) (.int .i64 (2 * (k : Int)))).run Tryd.prog w = .ok (.int .u8 (s[2 * k].toNat : Int)) w := fun w => by rw [show 2 * (k : Int) = ((2 * k : Nat) : Int) by omega]; exact index_at s _ hlt w
      have ix2 : ∀ w, (Instr.index 9 (.string s) (.int .i64 (2 * (k : Int) + 1))).run Tryd.prog w = .ok (.int .u8 (s[2 * k + 1].toNat : Int)) w := fun w => by rw [show 2 * (k : Int) + 1 = ((2 * k + 1 : Nat) : Int) by omega]; exact index_at s _ hlt2 w
      have ha := s[2 * k].toNat_lt
      have hb := s[2 * k + 1].toNat_lt
      have hbad : Box (unhx s[2 * k] = 0 ∨ unhx s[2 * k + 1] = 0 → decL s.data.toList = none) := ⟨fun h => hd.out.trans (hp.out.trans (by rw [d1, d2]; exact dec_bad r _ _ _ h))⟩
      have hgood : Box (unhx s[2 * k] ≠ 0 → unhx s[2 * k + 1] ≠ 0 → decP s.data.toList = mapR (r ++ [pairB s[2 * k] s[2 * k + 1]]) (decP (s.data.toList.drop (2 * (k + 1)))) ∧ (pairB s[2 * k] s[2 * k + 1]).toNat = 16 * (unhx s[2 * k] - 1) + (unhx s[2 * k + 1] - 1) ∧ unhx s[2 * k] ≤ 16 ∧ unhx s[2 * k + 1] ≤ 16) := ⟨fun h1 h2 => ⟨by
        rw [hp.out, d1, d2, dec_step r _ _ _ h1 h2]; rfl, pair_fin _ _ h1 h2, (hexD_unhx _ h1).1, (hexD_unhx _ h2).1⟩⟩
      generalize pairB s[2 * k] s[2 * k + 1] = pb at *
      generalize unhx s[2 * k] = p at *
      generalize unhx s[2 * k + 1] = q at *
      have ha' : s[2 * k].toNat < 256 := ha
      have hb' : s[2 * k + 1].toNat < 256 := hb
      clear d1 d2 ha hb hp
      generalize s[2 * k].toNat = a at *
      generalize s[2 * k + 1].toNat = b at *
      have n1 : (0 : Int) ≤ (a : Int) := by omega
      have n2 : (a : Int) < 256 := by omega
      have n3 : (0 : Int) ≤ (b : Int) := by omega
      have n4 : (b : Int) < 256 := by omega
      have hlen := hx.size
      have t5 : IntKind.i64.wrap (2 * (k : Int) + 1) = 2 * (k : Int) + 1 := IntWalk.i64_in _ (by omega)
      go_wp2_with fail
      go_quiet (fail)
      clear t5 ix1 ix2 ca cb
      rcases Nat.eq_zero_or_pos p with hp0 | hp0
      · subst hp0
        go_wp2
        go_ret2
        exact dec_none (hbad.out (by simp)) (Ext.drewN hx _)
      · rcases Nat.eq_zero_or_pos q with hq0 | hq0
        · subst hq0
          have e7 : ((p : Int) == 0) = false := by rw [beq_eq_false_iff_ne]; omega
          go_wp2
          go_ret2
          exact dec_none (hbad.out (by simp)) (Ext.drewN hx _)
        · obtain ⟨hg1, hg2, hg3, hg4⟩ := hgood.out (by omega) (by omega)
          have e7 : ((p : Int) == 0) = false := by rw [beq_eq_false_iff_ne]; omega
          have e8 : ((q : Int) == 0) = false := by rw [beq_eq_false_iff_ne]; omega
          have e9 : bits BinOp.or IntKind.u8 (((p : Int) - 1) * 16) ((q : Int) - 1) = ((pb.toNat : Nat) : Int) := by
            have := u8_or_nat ((p - 1) * 16) (q - 1) (by omega) (by omega)
            rw [pair_or (p - 1) (q - 1) (by omega) (by omega), ← hg2] at this
            rw [← this]
            congr 1 <;> omega
          have HG := Box.mk hg1
          clear hbad hgood hg1 hg2
          have HNE : Box (Value.ownBlock u5 ≠ some w.heap.size) := ⟨Lib.ownBlock_ne hown hT (by decide)⟩
          go_wp2_with (at_builtin; refine wpList_push rfl _ _ 24 rfl w.heap.size 5 i0 (.int .u8 0) 1 1 Tryd.underlying24 hi hz0 hz1 hz2 rfl (by decide) _ _ _ rfl (ownsRow_drewN hown _) [.int .u8 (pb.toNat : Int)] rfl rfl (by simp [Value.oneCell']) (by omega) (by omega) (by simp; omega) ?_; intro v1 w2 hown2 hg2' hbel2 hs2)
          have hT2 : w2.heap[w.heap.size]? = some (.cells tabC 130 (0, 0)) := (hg2'.block _ (by have := blk_lt hT; simpa using this) (fun e => HNE.out e.symm)).trans (by simpa using hT)
          have hx2 : Ext w w2 := Below.trans (Ext.drewN hx _) hbel2
          have hr2 : (r ++ [pb]).length = k + 1 := by rw [List.length_append, hr]; rfl
          have hn2 : (nums r).map (Value.int .u8) ++ [.int .u8 (pb.toNat : Int)] = (nums (r ++ [pb])).map (Value.int .u8) := by simp [nums]
          rw [hn2] at hown2
          have HR := Box.mk hr2
          clear hr2 hn2 hbel2 hg2' hT hr
          go_roundw
          case rel => exact ⟨k + 1, r ++ [pb], by omega, by go_num, HR.out, HG, hown2, hx2, hT2⟩
          case measure => simp [intOf]; omega
    · have hks : 2 * k = s.size := by omega
      have hd2 : Box (decL s.data.toList = some r) := ⟨by
        rw [hd.out, hp.out, hks, List.drop_eq_nil_of_le (Nat.le_of_eq (lst_len s))]
        simp [mapR, decP]⟩
      rw [← hr] at hown
      clear hp hr
      go_wp2
      go_ret2
      exact dec_some hd2.out hown hx

theorem decode_any (s : ByteArray) (w : World) (hs : s.size ≤ 1000000) :
    Calls Tryd.prog 72 #[.string s] w (DecPost w s.data.toList) := by
  by_cases h : s.data.toList = [45] ∨ s.size = 0 ∨ s.size % 2 = 1
  · exact decode_easy s w hs h
  · exact decode_even s w hs (fun e => h (Or.inl e)) (fun e => h (Or.inr (Or.inl e))) (fun e => h (Or.inr (Or.inr e)))
end Go.Proofs.YtapngkjgagapeaaDoor
