import Derived.Test.YthlnhemdhlkhfaaDoorD20
/- The reference's numbers. -/
namespace Go.Proofs.YthlnhemdhlkhfaaDoor
open Go.RowKit

/-- The number that digits give, and what stands behind them; none: too great. -/
def numG : List UInt8 → Nat → Option (Nat × List UInt8)
  | [], n => some (n, [])
  | c :: l, n => if 48 ≤ c.toNat ∧ c.toNat ≤ 57 then (if (18446744073709551615 - (c.toNat - 48)) / 10 < n then none else numG l (10 * n + (c.toNat - 48))) else some (n, c :: l)
def numV (s : ByteArray) : Value := match numG s.data.toList 0 with
  | none => .tuple #[.int .u64 0, .string ⟨#[]⟩, .bool false]
  | some (n, r) => .tuple #[.int .u64 n, .string ⟨r.toArray⟩, .bool (decide (r.length < s.size))]
theorem index_at (s : ByteArray) (k : Nat) (h : k < s.size) (w : World) : (Instr.index 9 (.string s) (.int .i64 (k : Int))).run Tryd.prog w = .ok (.int .u8 (s[k].toNat : Int)) w := by
  have := h
  go_simp
set_option maxRecDepth 100000 in
set_option maxHeartbeats 4000000 in
theorem rnum_any (s : ByteArray) (w : World) (hs : s.size ≤ 1000000) : Calls Tryd.prog 52 #[.string s] w fun e w' => e = .returned (numV s) ∧ Ext w w' := by
  go_enter Tryd.func52, Tryd.ntmps52
  go_wp2
  go_loopw [5, 6] (fun n i wr => ∃ k m : Nat, k ≤ s.size ∧ i = .int .i64 k ∧ n = .int .u64 m ∧ m ≤ 18446744073709551615 ∧ Box (numG s.data.toList 0 = numG (s.data.toList.drop k) m) ∧ Ext w wr) (fun _ i _ => s.size - (intOf i).toNat)
  case atStart => exact ⟨0, 0, by omega, rfl, rfl, by omega, ⟨rfl⟩, Below.refl _ _⟩
  case round =>
    obtain ⟨k, m, hk, rfl, rfl, hm, hg, hx⟩ := hrel
    by_cases hlt : k < s.size
    · have hix := index_at s k hlt
      have hd : s.data.toList.drop k = s[k] :: s.data.toList.drop (k + 1) := List.drop_eq_getElem_cons (by exact hlt)
      rw [hd] at hg
      by_cases hc : 48 ≤ s[k].toNat ∧ s[k].toNat ≤ 57
      · have hg1 : numG s.data.toList 0 = (if (18446744073709551615 - (s[k].toNat - 48)) / 10 < m then none else numG (s.data.toList.drop (k + 1)) (10 * m + (s[k].toNat - 48))) := by rw [hg.out]; simp only [numG]; rw [if_pos hc]
        obtain ⟨c, hcc⟩ : ∃ c, c = s[k].toNat := ⟨_, rfl⟩
        rw [← hcc] at hix hc hg1
        have e1 : decide (48 ≤ (c : Int)) = true := decide_eq_true (by omega)
        have e2 : decide ((c : Int) ≤ 57) = true := decide_eq_true (by omega)
        have e3 : IntKind.u8.wrap ((c : Int) - 48) = ((c - 48 : Nat) : Int) := by rw [IntKind.wrap_u8]; omega
        obtain ⟨d, hdd⟩ : ∃ d, d = c - 48 := ⟨_, rfl⟩
        rw [← hdd] at e3 hg1
        have hd9 : d ≤ 9 := by omega
        have e4 : IntKind.u64.wrap (d : Int) = d := by rw [IntKind.wrap_u64]; omega
        obtain ⟨q, hq⟩ : ∃ q, q = (18446744073709551615 - d) / 10 := ⟨_, rfl⟩
        rw [← hq] at hg1
        have e5 : IntKind.u64.wrap (18446744073709551615 - (d : Int)) = 18446744073709551615 - (d : Int) := by rw [IntKind.wrap_u64]; omega
        have e6 : (18446744073709551615 - (d : Int)).tdiv 10 = (q : Int) := by rw [Int.tdiv_eq_ediv_of_nonneg (by omega)]; omega
        have e7 : (18446744073709551615 - (d : Int)) / 10 = (q : Int) := by omega
        have e8 : IntKind.u64.wrap (q : Int) = q := by rw [IntKind.wrap_u64]; omega
        by_cases hbig : q < m
        · rw [if_pos hbig] at hg1
          have e9 : decide ((q : Int) < (m : Int)) = true := decide_eq_true (by omega)
          have e9n : decide (q < m) = true := decide_eq_true hbig
          have hv : Box (numV s = .tuple #[.int .u64 0, .string ⟨#[]⟩, .bool false]) := ⟨by unfold numV; rw [hg1]⟩
          clear hg hg1 hd hc hcc hdd hq
          go_wp2
          go_ret3
          exact ⟨by (rw [hv.out]; try rfl), hx⟩
        · rw [if_neg hbig] at hg1
          have e9 : decide ((q : Int) < (m : Int)) = false := decide_eq_false (by omega)
          have e9n : decide (q < m) = false := decide_eq_false hbig
          have hm10 : 10 * m + d ≤ 18446744073709551615 := by omega
          have e10 : IntKind.u64.wrap (10 * (m : Int)) = 10 * (m : Int) := by rw [IntKind.wrap_u64]; omega
          have e11 : IntKind.u64.wrap (10 * (m : Int) + (d : Int)) = 10 * (m : Int) + (d : Int) := by rw [IntKind.wrap_u64]; omega
          have hg2 := Box.mk hg1
          clear hg hg1 hd hc hcc hdd hq
          go_wp2
          go_roundw
          case rel => exact ⟨k + 1, 10 * m + d, by omega, by go_num, by go_num, hm10, hg2, hx⟩
          case measure => simp [intOf]; omega
      · have hg1 : numG s.data.toList 0 = some (m, s.data.toList.drop k) := by rw [hg.out, hd]; simp only [numG]; rw [if_neg hc]
        have hv : Box (numV s = .tuple #[.int .u64 m, .string (s.extract k s.size), .bool (decide (0 < k))]) := ⟨by
          unfold numV; rw [hg1, cextract_from]
          have : ((s.data.toList.drop k).length < s.size) = (0 < k) := by
            rw [List.length_drop]; apply propext; have h2 : s.data.toList.length = s.size := rfl; omega
          simp only [this]⟩
        have n1 : (k : Int) ≤ (s.size : Int) := by omega
        have n0 : (0 : Int) ≤ (k : Int) := by omega
        obtain ⟨c, hcc⟩ : ∃ c, c = s[k].toNat := ⟨_, rfl⟩
        rw [← hcc] at hix hc
        have key : (decide (48 ≤ (c : Int)) = false) ∨ (decide (48 ≤ (c : Int)) = true ∧ decide ((c : Int) ≤ 57) = false) := by
          simp only [decide_eq_true_eq, decide_eq_false_iff_not]; omega
        clear hg hg1 hd hc hcc
        rcases key with e1 | ⟨e1, e2⟩
        all_goals
          go_wp2
          go_quiet (fail)
          go_wp2
          go_ret3
          exact ⟨by (rw [hv.out]; try rfl), Ext.drewN hx _⟩
    · obtain rfl : k = s.size := by omega
      have hg1 : numG s.data.toList 0 = some (m, []) := by rw [hg.out, List.drop_of_length_le (show s.data.toList.length ≤ s.size from Nat.le_refl _)]; rfl
      have hv : Box (numV s = .tuple #[.int .u64 m, .string ByteArray.empty, .bool (decide (0 < s.size))]) := ⟨by
        unfold numV; rw [hg1]
        rfl⟩
      have n1 : (s.size : Int) ≤ (s.size : Int) := by omega
      have n0 : (0 : Int) ≤ (s.size : Int) := by omega
      clear hg hg1
      go_wp2
      go_quiet (fail)
      go_wp2
      go_ret3
      exact ⟨by (rw [hv.out]; try rfl), Ext.drewN hx _⟩
end Go.Proofs.YthlnhemdhlkhfaaDoor
