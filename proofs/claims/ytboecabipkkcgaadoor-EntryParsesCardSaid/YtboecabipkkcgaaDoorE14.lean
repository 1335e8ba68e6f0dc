import Derived.Test.YtboecabipkkcgaaDoorE11
/- Contracts of the digits that the reference reads: digit and bytes. -/
namespace Go.Proofs.YtboecabipkkcgaaDoor
open Go.RowKit

def dgV (c : UInt8) : Int := if unhx c = 0 then 0 else (unhx c : Int) - 1
def dgB (c : UInt8) : Bool := decide (unhx c ≠ 0)
theorem dg_at (k : Nat) (h : k < 16) : dgV (hexD k) = k ∧ dgB (hexD k) = true := by
  unfold dgV dgB
  rw [unhx_hexD k h]
  simp
theorem dg_none (c : UInt8) (h : ∀ j, j < 16 → hexD j ≠ c) : dgV c = 0 ∧ dgB c = false := by
  have h0 : unhx c = 0 := by
    rcases Nat.eq_zero_or_pos (unhx c) with h0 | h0
    · exact h0
    · obtain ⟨h1, h2⟩ := hexD_unhx c (by omega)
      exact absurd h2 (h _ (by omega))
  unfold dgV dgB; simp [h0]

set_option maxRecDepth 100000 in
set_option maxHeartbeats 1000000 in
theorem rdigit_any (c : UInt8) (w : World) :
    Calls Tryd.prog 58 #[.int .u8 (c.toNat : Int)] w fun e w' => e = .returned (.tuple #[.int .i64 (dgV c), .bool (dgB c)]) ∧ w = w' := by
  go_enter Tryd.func58, Tryd.ntmps58
  go_wp2
  go_loop [4] (fun i => ∃ k : Nat, k ≤ 16 ∧ i = .int .i64 k ∧ Box (∀ j, j < k → hexD j ≠ c)) (fun i => 16 - (intOf i).toNat)
  case atStart => exact ⟨0, by omega, rfl, ⟨fun j hj => absurd hj (Nat.not_lt_zero _)⟩⟩
  case round =>
    obtain ⟨k, hk, rfl, hp⟩ := hrel
    by_cases hlt : k < 16
    · have q : k < hexS.size := hlt
      have hk2 := hexS_at k hlt q
      by_cases hc : hexD k = c
      · have hd := Box.mk (dg_at k hlt)
        have e1 : (((hexS[k]'q).toNat : Int) == (c.toNat : Int)) = true := by rw [hk2, hc]; simp
        rw [hc] at hd
        clear hk2 hc hp
        go_wp2
        go_ret2
        refine ⟨?_, rfl⟩
        rw [hd.out.1, hd.out.2]; rfl
      · have e1 : (((hexS[k]'q).toNat : Int) == (c.toNat : Int)) = false := by
          rw [hk2, beq_eq_false_iff_ne]
          intro e
          exact hc (UInt8.toNat_inj.1 (by omega))
        have hp2 : Box (∀ j, j < k + 1 → hexD j ≠ c) := ⟨fun j hj => by
          rcases Nat.lt_or_ge j k with h | h
          · exact hp.out j h
          · obtain rfl : j = k := by omega
            exact hc⟩
        clear hk2 hc hp
        go_wp2
        go_round
        case rel => exact ⟨k + 1, by omega, by go_num, hp2⟩
        case measure => simp [intOf]; omega
    · obtain rfl : k = 16 := by omega
      have hd := Box.mk (dg_none c hp.out)
      clear hp
      go_wp2
      go_ret2
      refine ⟨?_, rfl⟩
      rw [hd.out.1, hd.out.2]; rfl

set_option maxRecDepth 100000 in
set_option maxHeartbeats 4000000 in
theorem rbytes_easy (s : ByteArray) (w : World) (hs : s.size ≤ 1000000) (hn : s.data.toList = [45] ∨ s.size = 0 ∨ s.size % 2 = 1) :
    Calls Tryd.prog 41 #[.string s] w (DecPost w s.data.toList) := by
  by_cases h1 : s.data.toList = [45]
  · clear hn
    have e1 := eq_test s _ h1
    have hd : Box (decL s.data.toList = some []) := ⟨by rw [h1]; rfl⟩
    clear h1
    go_enter Tryd.func41, Tryd.ntmps41
    go_wp2
    go_ret2
    exact dec_some hd.out (World.ownsRow_nil _ _ _ _) (Below.refl _ _)
  · have e1 := ne_test s _ h1
    by_cases h0 : s.size = 0
    · clear hn
      have hl : s.data.toList = [] := lst_nil' s h0
      have hd : Box (decL s.data.toList = none) := ⟨by rw [hl]; rfl⟩
      have e2 : ((s.size : Int) == 0) = true := by rw [h0]; rfl
      clear h1 hl h0
      go_enter Tryd.func41, Tryd.ntmps41
      go_wp2
      go_ret2
      exact dec_none hd.out (Below.refl _ _)
    · have e2 : ((s.size : Int) == 0) = false := by rw [beq_eq_false_iff_ne]; omega
      by_cases h2 : s.size % 2 = 1
      · clear hn
        have hd : Box (decL s.data.toList = none) := ⟨decL_odd _ h1 h2⟩
        have e3 : ((s.size : Int) % 2 == 1) = true := by rw [beq_iff_eq]; omega
        clear h1 h2
        go_enter Tryd.func41, Tryd.ntmps41
        go_wp2
        go_ret2
        exact dec_none hd.out (Below.refl _ _)
      · exact absurd hn (fun h => h.elim h1 (fun h => h.elim h0 h2))

set_option maxRecDepth 100000 in
set_option maxHeartbeats 4000000 in
theorem rbytes_even (s : ByteArray) (w : World) (hs : s.size ≤ 1000000) (h1 : s.data.toList ≠ [45]) (h0 : s.size ≠ 0) (h2 : ¬ s.size % 2 = 1) :
    Calls Tryd.prog 41 #[.string s] w (DecPost w s.data.toList) := by
  have e1 := ne_test s _ h1
  have e2 : ((s.size : Int) == 0) = false := by rw [beq_eq_false_iff_ne]; omega
  have e3 : ((s.size : Int) % 2 == 1) = false := by rw [beq_eq_false_iff_ne]; omega
  have hd : Box (decL s.data.toList = decP s.data.toList) := ⟨decL_even _ (by rw [lst_len]; omega) (fun e => h0 (by rw [← lst_len, e]; rfl))⟩
  obtain ⟨i0, hi, hz0, hz1, hz2⟩ := info_parts infoByte
  have H2 : Box (s.size % 2 = 0) := ⟨by omega⟩
  clear h1 h2 h0
  go_enter Tryd.func41, Tryd.ntmps41
  go_wp2
  go_loopw [4, 5] (fun v i wr => ∃ (k : Nat) (r : List UInt8), 2 * k ≤ s.size ∧ i = .int .i64 (2 * (k : Int)) ∧ r.length = k ∧ Box (decP s.data.toList = mapR r (decP (s.data.toList.drop (2 * k)))) ∧ wr.ownsRow w.heap.size 5 1 v k ((nums r).map (Value.int .u8)) ∧ Ext w wr) (fun _ i _ => s.size - (intOf i).toNat)
  case atStart => exact ⟨0, [], by omega, rfl, rfl, ⟨by simp [mapR]⟩, World.ownsRow_nil _ _ _ _, Below.refl _ _⟩
  case round =>
    obtain ⟨k, r, hk, rfl, hr, hp, hown, hx⟩ := hrel
    by_cases hlt : 2 * k < s.size
    · have hlt2 : 2 * k + 1 < s.size := by have := H2.out; omega
      have d1 := drop_cons s (2 * k) hlt
      have d2 := drop_cons s (2 * k + 1) hlt2
      have hbad : Box (unhx s[2 * k] = 0 ∨ unhx s[2 * k + 1] = 0 → decL s.data.toList = none) := ⟨fun h => hd.out.trans (hp.out.trans (by rw [d1, d2]; exact dec_bad r _ _ _ h))⟩
      have hgood : Box (unhx s[2 * k] ≠ 0 → unhx s[2 * k + 1] ≠ 0 → decP s.data.toList = mapR (r ++ [pairB s[2 * k] s[2 * k + 1]]) (decP (s.data.toList.drop (2 * (k + 1)))) ∧ (pairB s[2 * k] s[2 * k + 1]).toNat = 16 * (unhx s[2 * k] - 1) + (unhx s[2 * k + 1] - 1) ∧ unhx s[2 * k] ≤ 16 ∧ unhx s[2 * k + 1] ≤ 16) := ⟨fun h1 h2 => ⟨by
        rw [hp.out, d1, d2, dec_step r _ _ _ h1 h2]; rfl, pair_fin _ _ h1 h2, (hexD_unhx _ h1).1, (hexD_unhx _ h2).1⟩⟩
      have ix1 : ∀ w, (Instr.index 9 (.string s) (.int .i64 (2 * (k : Int)))).run Tryd.prog w = .ok (.int .u8 (s[2 * k].toNat : Int)) w := fun w => by rw [show 2 * (k : Int) = ((2 * k : Nat) : Int) by omega]; exact index_at s _ hlt w
      have ix2 : ∀ w, (Instr.index 9 (.string s) (.int .i64 (2 * (k : Int) + 1))).run Tryd.prog w = .ok (.int .u8 (s[2 * k + 1].toNat : Int)) w := fun w => by rw [show 2 * (k : Int) + 1 = ((2 * k + 1 : Nat) : Int) by omega]; exact index_at s _ hlt2 w
      have c1 : Box _ := ⟨fun w => rdigit_any s[2 * k] w⟩
      have c2 : Box _ := ⟨fun w => rdigit_any s[2 * k + 1] w⟩
      unfold dgV dgB at c1 c2
      generalize pairB s[2 * k] s[2 * k + 1] = pb at *
      generalize unhx s[2 * k] = p at *
      generalize unhx s[2 * k + 1] = q at *
      clear d1 d2 hp
      generalize (s[2 * k].toNat : Int) = a at *
      generalize (s[2 * k + 1].toNat : Int) = b at *
      have hlen := hx.size
      rcases Nat.eq_zero_or_pos p with hp0 | hp0
      · subst hp0
        rw [if_pos rfl, show decide ((0 : Nat) ≠ 0) = false from rfl] at c1
        obtain ⟨v2, g2, c2⟩ : ∃ v2 g2, Box (∀ w, Calls Tryd.prog 58 #[.int .u8 b] w fun e w' => e = .returned (.tuple #[.int .i64 v2, .bool g2]) ∧ w = w') := ⟨_, _, c2⟩
        go_wp2_with (first | (go_at_call 58; (with_reducible refine (c1.out _).mono ?_); rintro e w' ⟨rfl, rfl⟩) | (go_at_call 58; (with_reducible refine (c2.out _).mono ?_); rintro e w' ⟨rfl, rfl⟩))
        go_ret2
        exact dec_none (hbad.out (by simp)) hx
      · rw [if_neg (by omega), show decide (p ≠ 0) = true from decide_eq_true (by omega)] at c1
        rcases Nat.eq_zero_or_pos q with hq0 | hq0
        · subst hq0
          rw [if_pos rfl, show decide ((0 : Nat) ≠ 0) = false from rfl] at c2
          go_wp2_with (first | (go_at_call 58; (with_reducible refine (c1.out _).mono ?_); rintro e w' ⟨rfl, rfl⟩) | (go_at_call 58; (with_reducible refine (c2.out _).mono ?_); rintro e w' ⟨rfl, rfl⟩))
          go_ret2
          exact dec_none (hbad.out (by simp)) hx
        · rw [if_neg (by omega), show decide (q ≠ 0) = true from decide_eq_true (by omega)] at c2
          obtain ⟨hg1, hg2, hg3, hg4⟩ := hgood.out (by omega) (by omega)
          have e9 : (16 * ((p : Int) - 1) + ((q : Int) - 1)) % 256 = ((pb.toNat : Nat) : Int) := by omega
          have e10 : 16 * ((p : Int) - 1) + ((q : Int) - 1) = ((pb.toNat : Nat) : Int) := by omega
          have HG := Box.mk hg1
          have HP := Box.mk e10
          clear hbad hgood hg1 hg2 e9 e10
          go_wp2_with (first
            | (go_at_call 58; (with_reducible refine (c1.out _).mono ?_); rintro e w' ⟨rfl, rfl⟩)
            | (go_at_call 58; (with_reducible refine (c2.out _).mono ?_); rintro e w' ⟨rfl, rfl⟩)
            | (at_builtin; refine wpList_push rfl _ _ 25 rfl w.heap.size 5 i0 (.int .u8 0) 1 1 Tryd.underlying25 hi hz0 hz1 hz2 rfl (by decide) _ _ _ rfl hown [.int .u8 (16 * ((p : Int) - 1) + ((q : Int) - 1))] rfl rfl (by simp [Value.oneCell']) (by omega) (by omega) hlen ?_; intro v1 w2 hown2 hg2' hbel2 hs2))
          have hx2 : Ext w w2 := Below.trans hx hbel2
          have hr2 : (r ++ [pb]).length = k + 1 := by rw [List.length_append, hr]; rfl
          have hn2 : (nums r).map (Value.int .u8) ++ [.int .u8 (16 * ((p : Int) - 1) + ((q : Int) - 1))] = (nums (r ++ [pb])).map (Value.int .u8) := by rw [HP.out]; simp [nums]
          rw [hn2] at hown2
          have HR := Box.mk hr2
          clear hr2 hn2 hbel2 hg2' hr
          go_roundw
          case rel => exact ⟨k + 1, r ++ [pb], by omega, by go_num, HR.out, HG, hown2, hx2⟩
          case measure => simp [intOf]; omega
    · have hks : 2 * k = s.size := by omega
      have hd2 : Box (decL s.data.toList = some r) := ⟨by
        rw [hd.out, hp.out, hks, List.drop_eq_nil_of_le (Nat.le_of_eq (lst_len s))]
        simp [mapR, decP]⟩
      rw [← hr] at hown
      clear hp hr
      go_wp2
      go_ret2
      exact dec_some hd2.out hown hx

theorem rbytes_any (s : ByteArray) (w : World) (hs : s.size ≤ 1000000) :
    Calls Tryd.prog 41 #[.string s] w (DecPost w s.data.toList) := by
  by_cases h : s.data.toList = [45] ∨ s.size = 0 ∨ s.size % 2 = 1
  · exact rbytes_easy s w hs h
  · exact rbytes_even s w hs (fun e => h (Or.inl e)) (fun e => h (Or.inr (Or.inl e))) (fun e => h (Or.inr (Or.inr e)))
end Go.Proofs.YtboecabipkkcgaaDoor
