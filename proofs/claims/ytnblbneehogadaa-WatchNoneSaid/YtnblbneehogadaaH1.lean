import Derived.Test.YtnblbneehogadaaHN
/- Contracts: slices.Contains on kinds; valid. -/
namespace Go.Proofs.Ytnblbneehogadaa
open Go.RowKit
def kidx (ks : List Int) (k : Int) : Int := if k ∈ ks then (ks.idxOf k : Nat) else -1
theorem kidx_at {ks : List Int} {k : Int} {j : Nat} (hj : j < ks.length) (h1 : k ∉ ks.take j) (h2 : ks[j] = k) : kidx ks k = (j : Nat) := by
  unfold kidx
  have hm : k ∈ ks := by rw [← h2]; exact List.getElem_mem hj
  rw [if_pos hm]
  congr 1
  have e : ks = ks.take j ++ k :: ks.drop (j + 1) := by
    rw [← h2, List.getElem_cons_drop, List.take_append_drop]
  rw [e, List.idxOf_append, if_neg h1, List.idxOf_cons_self, List.length_take]
  omega
theorem kidx_pos (ks : List Int) (k : Int) : decide (0 ≤ kidx ks k) = decide (k ∈ ks) := by
  unfold kidx
  by_cases h : k ∈ ks
  · rw [if_pos h, decide_eq_true h, decide_eq_true (by omega)]
  · rw [if_neg h, decide_eq_false h]; rfl
set_option maxHeartbeats 1000000 in
theorem kindex_any (a : Option Addr) (c : Nat) (ks : List Int) (k : Int) (w : World) (hC : CellsAt w a (ks.map (Value.int .i64))) (hn : ks.length ≤ 9223372036854775807) :
    Calls Try.prog 48 #[.slice a ks.length c, .int .i64 k] w fun e w' => e = .returned (.int .i64 (kidx ks k)) ∧ w = w' := by
  have HC := Box.mk hC
  clear hC
  go_enter Try.func48, Try.ntmps48
  go_wp2
  go_loop [8] (fun i => ∃ j : Nat, j ≤ ks.length ∧ i = .int .i64 j ∧ Box (k ∉ ks.take j)) (fun i => ks.length - (intOf i).toNat)
  case atStart => exact ⟨0, by omega, rfl, ⟨by simp⟩⟩
  case round =>
    obtain ⟨j, hj, rfl, hno⟩ := hrel
    by_cases hlt : j < ks.length
    · obtain ⟨b, o, rfl, hc⟩ := HC.out j (.int .i64 ks[j]) (by rw [List.getElem?_map, List.getElem?_eq_getElem hlt]; rfl)
      have h0 : (0 : Int) ≤ (j : Int) := by omega
      have h1 : (j : Int) < (ks.length : Int) := by omega
      by_cases he : k = ks[j]
      · have hm : Box (kidx ks k = (j : Nat)) := ⟨kidx_at hlt hno.out he.symm⟩
        rw [← he] at hc
        clear he
        go_wp2
        go_ret
        exact ⟨ret_int hm.out.symm, rfl⟩
      · have hne : (k == ks[j]) = false := by rw [beq_eq_false_iff_ne]; exact he
        have hno2 : Box (k ∉ ks.take (j + 1)) := ⟨by
          rw [List.take_succ_eq_append_getElem hlt, List.mem_append]
          rintro (h | h)
          · exact hno.out h
          · simp at h; exact he h⟩
        clear he
        generalize ks[j] = y at *
        go_wp2
        go_round
        case rel => exact ⟨j + 1, by omega, by go_num, hno2⟩
        case measure => simp [intOf]; omega
    · obtain rfl : j = ks.length := by omega
      have hm : Box (k ∉ ks) := ⟨by have := hno.out; rwa [List.take_length] at this⟩
      have hk : Box (kidx ks k = -1) := ⟨by unfold kidx; rw [if_neg hm.out]⟩
      go_wp2
      go_ret
      exact ⟨ret_int hk.out.symm, rfl⟩
set_option maxHeartbeats 400000 in
theorem kcontains_any (a : Option Addr) (c : Nat) (ks : List Int) (k : Int) (w : World) (hC : CellsAt w a (ks.map (Value.int .i64))) (hn : ks.length ≤ 9223372036854775807) :
    Calls Try.prog 32 #[.slice a ks.length c, .int .i64 k] w fun e w' => e = .returned (.bool (decide (k ∈ ks))) ∧ w = w' := by
  have c1 : Box _ := ⟨kindex_any a c ks k w hC hn⟩
  have hz := kidx_pos ks k
  generalize kidx ks k = z at *
  clear hC
  go_enter Try.func32, Try.ntmps32
  go_wp2_with (first | (go_at_call 48; (with_reducible refine (c1.out).mono ?_); rintro e w1 ⟨rfl, rfl⟩))
  go_ret
  exact ⟨rfl, rfl⟩
/-- The kinds that were seen, as bits. -/
def seenN (l : List Int) : Nat := l.foldl (fun s k => s ||| 2 ^ k.toNat) 0
theorem seenN_snoc (l : List Int) (k : Int) : seenN (l ++ [k]) = seenN l ||| 2 ^ k.toNat := by
  unfold seenN
  rw [List.foldl_append]
  rfl
theorem snoc_ind {P : List Int → Prop} (h0 : P []) (hs : ∀ l k, P l → P (l ++ [k])) (l : List Int) : P l := by
  have : ∀ n, ∀ l : List Int, l.length = n → P l := by
    intro n
    induction n with
    | zero => intro l h; rw [List.length_eq_zero_iff.1 h]; exact h0
    | succ n ih =>
      intro l h
      rcases List.eq_nil_or_concat l with rfl | ⟨m, k, rfl⟩
      · exact h0
      · rw [List.concat_eq_append] at *
        exact hs m k (ih m (by simpa using h))
  exact this _ l rfl
theorem seenN_lt (l : List Int) (h : ∀ k ∈ l, 1 ≤ k ∧ k ≤ 5) : seenN l < 2 ^ 6 := by
  induction l using snoc_ind with
  | h0 => decide
  | hs l k ih =>
    rw [seenN_snoc]
    refine Nat.or_lt_two_pow (ih (fun y hy => h y (by simp [hy]))) ?_
    have := h k (by simp)
    exact Nat.pow_lt_pow_right (by decide) (by omega)
theorem seenN_bit (l : List Int) (h : ∀ k ∈ l, 1 ≤ k ∧ k ≤ 5) (k : Int) (h1 : 1 ≤ k) : (seenN l).testBit k.toNat = decide (k ∈ l) := by
  induction l using snoc_ind with
  | h0 => simp [seenN]
  | hs l q ih =>
    rw [seenN_snoc, Nat.testBit_or, ih (fun y hy => h y (by simp [hy])), Nat.testBit_two_pow]
    have := h q (by simp)
    rw [Bool.eq_iff_iff]
    simp only [Bool.or_eq_true, decide_eq_true_eq, List.mem_append, List.mem_singleton]
    constructor
    · rintro (h | h)
      · exact Or.inl h
      · exact Or.inr (by omega)
    · rintro (h | h)
      · exact Or.inl h
      · exact Or.inr (by omega)
/-- The rule is valid. -/
def validB (pre : ByteArray) (ks : List Int) (room : Int) : Bool := decide ((∀ k ∈ ks, 1 ≤ k ∧ k ≤ 5) ∧ ks.Nodup) && (decide (pre.size ≤ 250) && (decide (1 ≤ room) && decide (room ≤ 1000)))
end Go.Proofs.Ytnblbneehogadaa
