import Derived.Test.YtapngkjgagapeaaDoorV5
/- What the reference reads of words: number, time, digit; the parts of a line. -/
namespace Go.Proofs.YtapngkjgagapeaaDoor
open Go.RowKit

set_option maxHeartbeats 1000000 in
theorem digit_any (c : UInt8) (w : World) : Calls Tryd.prog 61 #[.int .u8 (c.toNat : Int)] w fun e w' => e = .returned (.int .u8 ((digN c).toNat : Int)) ∧ w = w' := by
  have hc := c.toNat_lt
  unfold digN
  by_cases h : 97 ≤ c.toNat
  · rw [if_pos h]
    have e0 : ((c - 97 + 10).toNat : Int) = (c.toNat : Int) - 97 + 10 := by
      rw [UInt8.toNat_add, UInt8.toNat_sub]
      show (((256 - 97 + c.toNat) % 256 + 10) % 256 : Nat) = (c.toNat : Int) - 97 + 10
      omega
    rw [e0]
    generalize c.toNat = x at *
    have d1 : decide (97 ≤ (x : Int)) = true := decide_eq_true (by omega)
    have e1 : IntKind.u8.wrap ((x : Int) - 97) = (x : Int) - 97 := by rw [IntKind.wrap_u8]; omega
    have e2 : IntKind.u8.wrap ((x : Int) - 97 + 10) = (x : Int) - 97 + 10 := by rw [IntKind.wrap_u8]; omega
    clear e0 h
    go_enter Tryd.func61, Tryd.ntmps61
    go_wp2
    go_ret
    exact ⟨rfl, rfl⟩
  · rw [if_neg h]
    have e1 : IntKind.u8.wrap ((c.toNat : Int) - 48) = ((c - 48).toNat : Int) := by
      rw [UInt8.toNat_sub, IntKind.wrap_u8]
      show _ = (((256 - 48 + c.toNat) % 256 : Nat) : Int)
      omega
    have d1 : decide (97 ≤ (c.toNat : Int)) = false := decide_eq_false (by omega)
    have d2 : decide (97 ≤ c.toNat) = false := decide_eq_false h
    generalize ((c - 48).toNat : Int) = y at *
    generalize c.toNat = x at *
    clear h
    go_enter Tryd.func61, Tryd.ntmps61
    go_wp2
    go_ret
    exact ⟨rfl, rfl⟩
theorem foldN_snoc (l : List UInt8) (c : UInt8) (n : Nat) : foldN (l ++ [c]) n = (10 * foldN l n + (c.toNat - 48)) % 18446744073709551616 := by
  rw [foldN_app]; rfl
theorem allD_snoc (l : List UInt8) (c : UInt8) : allD (l ++ [c]) = (allD l && (decide (48 ≤ c.toNat) && decide (c.toNat ≤ 57))) := by
  unfold allD; simp
theorem take_snoc (s : ByteArray) (k : Nat) (h : k < s.size) : s.data.toList.take (k + 1) = s.data.toList.take k ++ [s[k]] := by
  rw [List.take_succ_eq_append_getElem (by exact h)]; rfl
theorem allD_false (s : ByteArray) (k : Nat) (h : k < s.size) (hc : ¬ (48 ≤ s[k].toNat ∧ s[k].toNat ≤ 57)) : allD s.data.toList = false := by
  unfold allD
  rw [List.all_eq_false]
  refine ⟨s[k], ?_, ?_⟩
  · exact List.getElem_mem (l := s.data.toList) (by exact h)
  · simp; omega
set_option maxRecDepth 100000 in
set_option maxHeartbeats 4000000 in
theorem number_any' (s : ByteArray) (w : World) (hs : s.size ≤ 1000000) : Calls Tryd.prog 38 #[.string s] w fun e w' => e = .returned (.int .u64 (numN s.data.toList)) ∧ Ext w w' := by
  have hlen : s.data.toList.length = s.size := rfl
  by_cases h20 : s.size ≤ 20
  · have d20 : decide (20 < (s.size : Int)) = false := decide_eq_false (by omega)
    have d21 : decide (20 < s.size) = false := decide_eq_false (by omega)
    go_enter Tryd.func38, Tryd.ntmps38
    go_wp2
    go_loopw [3, 4] (fun n i wr => ∃ k m : Nat, k ≤ s.size ∧ i = .int .i64 k ∧ n = .int .u64 m ∧ m < 18446744073709551616 ∧ Box (allD (s.data.toList.take k) = true ∧ m = foldN (s.data.toList.take k) 0) ∧ Ext w wr) (fun _ i _ => s.size - (intOf i).toNat)
    case atStart => exact ⟨0, 0, by omega, rfl, rfl, by omega, ⟨rfl, rfl⟩, Below.refl _ _⟩
    case round =>
      obtain ⟨k, m, hk, rfl, rfl, hm, hg, hx⟩ := hrel
      by_cases hlt : k < s.size
      · have hix := index_at s k hlt
        by_cases hc : 48 ≤ s[k].toNat ∧ s[k].toNat ≤ 57
        · have hg2 : Box (allD (s.data.toList.take (k + 1)) = true ∧ (10 * m + (s[k].toNat - 48)) % 18446744073709551616 = foldN (s.data.toList.take (k + 1)) 0) := ⟨by rw [take_snoc s k hlt, allD_snoc, hg.out.1]; simp [hc], by rw [take_snoc s k hlt, foldN_snoc, hg.out.2]⟩
          obtain ⟨c, hcc⟩ : ∃ c, c = s[k].toNat := ⟨_, rfl⟩
          rw [← hcc] at hix hc hg2
          have e1 : decide ((c : Int) < 48) = false := decide_eq_false (by omega)
          have e2 : decide (57 < (c : Int)) = false := decide_eq_false (by omega)
          have e1n : decide (c < 48) = false := decide_eq_false (by omega)
          have e2n : decide (57 < c) = false := decide_eq_false (by omega)
          have e3 : IntKind.u8.wrap ((c : Int) - 48) = ((c - 48 : Nat) : Int) := by rw [IntKind.wrap_u8]; omega
          obtain ⟨d, hdd⟩ : ∃ d, d = c - 48 := ⟨_, rfl⟩
          rw [← hdd] at e3 hg2
          have hd9 : d ≤ 9 := by omega
          have e4 : IntKind.u64.wrap (d : Int) = d := by rw [IntKind.wrap_u64]; omega
          obtain ⟨x, hxx⟩ : ∃ x, x = 10 * m % 18446744073709551616 := ⟨_, rfl⟩
          have e5 : IntKind.u64.wrap (10 * (m : Int)) = (x : Int) := by rw [IntKind.wrap_u64]; omega
          obtain ⟨y, hyy⟩ : ∃ y, y = (10 * m + d) % 18446744073709551616 := ⟨_, rfl⟩
          have e6 : IntKind.u64.wrap ((x : Int) + (d : Int)) = (y : Int) := by rw [IntKind.wrap_u64]; omega
          rw [← hyy] at hg2
          have hy : y < 18446744073709551616 := by omega
          clear hg hc hcc hdd hxx hyy
          go_wp2
          go_roundw
          case rel => exact ⟨k + 1, y, by omega, by go_num, rfl, hy, hg2, hx⟩
          case measure => simp [intOf]; omega
        · have hv : Box (numN s.data.toList = 0) := ⟨by unfold numN; rw [allD_false s k hlt hc]; simp⟩
          obtain ⟨c, hcc⟩ : ∃ c, c = s[k].toNat := ⟨_, rfl⟩
          rw [← hcc] at hix hc
          have key : decide ((c : Int) < 48) = true ∨ (decide ((c : Int) < 48) = false ∧ decide (57 < (c : Int)) = true) := by
            by_cases h : c < 48
            · exact .inl (decide_eq_true (by omega))
            · exact .inr ⟨decide_eq_false (by omega), decide_eq_true (by omega)⟩
          have key2 : decide (c < 48) = decide ((c : Int) < 48) := decide_eq_decide.2 (by omega)
          have key3 : decide (57 < c) = decide (57 < (c : Int)) := decide_eq_decide.2 (by omega)
          clear hg hcc hc
          rcases key with h1 | ⟨h1, h2⟩
          · rw [h1] at key2
            clear key3
            go_wp2
            go_ret
            exact ⟨by rw [hv.out]; rfl, hx⟩
          · rw [h1] at key2
            rw [h2] at key3
            go_wp2
            go_ret
            exact ⟨by rw [hv.out]; rfl, hx⟩
      · obtain rfl : k = s.size := by omega
        have hv : Box (numN s.data.toList = m) := ⟨by
          have h := hg.out
          rw [← hlen, List.take_length] at h
          unfold numN; rw [if_pos ⟨h.1, by rw [hlen]; exact h20⟩, h.2]⟩
        clear hg
        go_wp2
        go_ret
        exact ⟨by rw [hv.out]; rfl, hx⟩
  · have hv : Box (numN s.data.toList = 0) := ⟨by unfold numN; rw [if_neg (fun h => by rw [hlen] at h; omega)]⟩
    have d20 : decide (20 < (s.size : Int)) = true := decide_eq_true (by omega)
    have d21 : decide (20 < s.size) = true := decide_eq_true (by omega)
    have hpos : 0 < s.size := by omega
    go_enter Tryd.func38, Tryd.ntmps38
    go_wp2
    go_loopw [3, 4] (fun n i wr => i = .int .i64 0 ∧ n = .int .u64 0 ∧ wr = w) (fun _ _ _ => 1)
    case atStart => exact ⟨rfl, rfl, rfl⟩
    case round =>
      obtain ⟨rfl, rfl, rfl⟩ := hrel
      go_wp2
      all_goals
        go_ret
        exact ⟨by rw [hv.out]; rfl, Below.refl _ _⟩
set_option maxHeartbeats 1000000 in
theorem timeR_any (s : ByteArray) (w : World) (hs : s.size ≤ 1000000) : Calls Tryd.prog 37 #[.string s] w fun e w' => e = .returned (.int .u64 (timeN s.data.toList)) ∧ Ext w w' := by
  unfold timeN
  by_cases h : s.data.toList = neverL
  · rw [if_pos h]
    have e1 := eq_test s _ h
    unfold neverL at e1
    unfold never
    clear h
    go_enter Tryd.func37, Tryd.ntmps37
    go_wp2
    go_ret
    exact ⟨rfl, Below.refl _ _⟩
  · rw [if_neg h]
    have c1 : Box _ := ⟨fun w => number_any' s w hs⟩
    have e1 := ne_test s _ h
    unfold neverL at e1
    have hx : Ext w w := Below.refl _ _
    clear h
    go_enter Tryd.func37, Tryd.ntmps37
    go_wp2_with (first | (go_at_call 38; (with_reducible refine (c1.out _).mono ?_); rintro e w1 ⟨rfl, hb⟩; have hx := Ext.trans' hx hb))
    go_ret
    exact ⟨rfl, hx⟩
end Go.Proofs.YtapngkjgagapeaaDoor
