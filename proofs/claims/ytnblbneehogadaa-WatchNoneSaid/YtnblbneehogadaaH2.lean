import Derived.Test.YtnblbneehogadaaH1
import Derived.Test.YtnblbneehogadaaHB
import Derived.Test.YtnblbneehogadaaHV
import Derived.Laws.BitsAllLaws
/- Contracts: Fits, valid, copied. -/
namespace Go.Proofs.Ytnblbneehogadaa
open Go.RowKit
set_option maxHeartbeats 1000000 in
theorem fits_any (pre : ByteArray) (ka : Option Addr) (kc : Nat) (ks : List Int) (room : Int) (old : Bool) (k : Int) (s : ByteArray) (ua : Option Addr) (n uc b d t : Nat) (w : World) (hC : CellsAt w ka (ks.map (Value.int .i64))) (hn : ks.length ≤ 9223372036854775807) :
    Calls Try.prog 9 #[.agg #[.string pre, .slice ka ks.length kc, .int .i64 room, .bool old], .agg #[.int .i64 k, .string s, .slice ua n uc, .int .u64 b, .int .u64 d, .int .u64 t]] w fun e w' => e = .returned (.bool (fitsB pre ks s k)) ∧ Ext w w' := by
  have hx : Ext w ((w.alloc (.cells #[.string pre, .slice ka ks.length kc, .int .i64 room, .bool old] 24)).alloc (.cells #[.int .i64 k, .string s, .slice ua n uc, .int .u64 b, .int .u64 d, .int .u64 t] 30)) := Ext.alloc (Ext.alloc (Below.refl _ _) _) _
  have c1 : Box (∀ w, Calls Try.prog 31 #[.string s, .string pre] w fun e w' => e = .returned (.bool (pre.data.toList.isPrefixOf s.data.toList)) ∧ w = w') := ⟨fun w => (Try.strings_HasPrefix s pre w).mono fun e w' ⟨h1, h2⟩ => ⟨h1, h2.symm⟩⟩
  have c2 : Box (∀ w', Ext w w' → _) := ⟨fun w' hx => kcontains_any ka kc ks k w' (CellsAt.ext hx hC) hn⟩
  have hks : decide (ks = []) = decide (ks.length = 0) := decide_eq_decide.2 List.length_eq_zero_iff.symm
  unfold fitsB
  rw [hks]
  clear hC hks
  generalize pre.data.toList.isPrefixOf s.data.toList = p at *
  generalize decide (k ∈ ks) = q at *
  generalize ks.length = m at *
  cases p
  · go_enter Try.func9, Try.ntmps9
    go_wp2_with (first | (go_at_call 31; (with_reducible refine (c1.out _).mono ?_); rintro e w' ⟨rfl, rfl⟩))
    go_ret
    exact ⟨ret_bool (by simp), hx⟩
  · by_cases h0 : m = 0
    · subst h0
      go_enter Try.func9, Try.ntmps9
      go_wp2_with (first | (go_at_call 31; (with_reducible refine (c1.out _).mono ?_); rintro e w' ⟨rfl, rfl⟩))
      go_ret
      exact ⟨ret_bool (by simp), hx⟩
    · have d1 : ((m : Int) == 0) = false := by rw [beq_eq_false_iff_ne]; omega
      have d2 : decide (m = 0) = false := decide_eq_false h0
      have H0 := Box.mk h0
      clear h0
      go_enter Try.func9, Try.ntmps9
      go_wp2_with (first | (go_at_call 31; (with_reducible refine (c1.out _).mono ?_); rintro e w' ⟨rfl, rfl⟩) | (go_at_call 32; (with_reducible refine (c2.out _ hx).mono ?_); rintro e w' ⟨rfl, rfl⟩))
      go_ret
      exact ⟨ret_bool (by simp [H0.out]), hx⟩

theorem blk6f {w : World} {B : Nat} {c0 c1 c2 c3 c4 c5 : Value} {T : TypeId} (h : w.heap[B]? = some (.cells #[c0, c1, c2, c3, c4, c5] T (0, 0))) :
    w.frozen? ⟨B, 0, none⟩ = false ∧ w.frozen? ⟨B, 1, none⟩ = false ∧ w.frozen? ⟨B, 2, none⟩ = false ∧ w.frozen? ⟨B, 3, none⟩ = false ∧ w.frozen? ⟨B, 4, none⟩ = false ∧ w.frozen? ⟨B, 5, none⟩ = false :=
  ⟨Lib.frozen_of_heap h 0, Lib.frozen_of_heap h 1, Lib.frozen_of_heap h 2, Lib.frozen_of_heap h 3, Lib.frozen_of_heap h 4, Lib.frozen_of_heap h 5⟩
def St6 (w : World) (B : Nat) (a b c d e f : Value) : World := (((((w.setCell ⟨B, 0, none⟩ a).setCell ⟨B, 1, none⟩ b).setCell ⟨B, 2, none⟩ c).setCell ⟨B, 3, none⟩ d).setCell ⟨B, 4, none⟩ e).setCell ⟨B, 5, none⟩ f
theorem Ext.st6 {w w1 : World} (h : Ext w w1) {B : Nat} (hB : w.heap.size ≤ B) (a b c d e f : Value) : Ext w ((((((w1.setCell ⟨B, 0, none⟩ a).setCell ⟨B, 1, none⟩ b).setCell ⟨B, 2, none⟩ c).setCell ⟨B, 3, none⟩ d).setCell ⟨B, 4, none⟩ e).setCell ⟨B, 5, none⟩ f) :=
  (((((Below.setCell h (p := ⟨B, 0, none⟩) hB _).setCell (p := ⟨B, 1, none⟩) hB _).setCell (p := ⟨B, 2, none⟩) hB _).setCell (p := ⟨B, 3, none⟩) hB _).setCell (p := ⟨B, 4, none⟩) hB _).setCell (p := ⟨B, 5, none⟩) hB _
theorem OwnB.st6 {C : Nat} {w : World} {v : Value} {l : List UInt8} (h : OwnB C w v l) {B : Nat} (hB : B < C) (a b c d e f : Value) : OwnB C (St6 w B a b c d e f) v l :=
  (((((h.setCell (p := ⟨B, 0, none⟩) hB _).setCell (p := ⟨B, 1, none⟩) hB _).setCell (p := ⟨B, 2, none⟩) hB _).setCell (p := ⟨B, 3, none⟩) hB _).setCell (p := ⟨B, 4, none⟩) hB _).setCell (p := ⟨B, 5, none⟩) hB _
set_option maxHeartbeats 2000000 in
theorem copied_any (k : Int) (s : ByteArray) (a : Option Addr) (l : List UInt8) (c b d t : Nat) (w : World) (h : By w (.slice a l.length c) l) :
    Calls Try.prog 46 #[(.agg #[.int .i64 (k), .string s, .slice a (l.length) c, .int .u64 (b), .int .u64 (d), .int .u64 (t)])] w fun e w' => ∃ a' c', e = .returned (.agg #[.int .i64 (k), .string s, .slice a' (l.length) c', .int .u64 (b), .int .u64 (d), .int .u64 (t)]) ∧ OwnB w.heap.size w' (.slice a' l.length c') l ∧ Ext w w' := by
  have c1 : Box (∀ w1, Ext w w1 → Calls Try.prog 58 #[.slice a l.length c] w1 fun e w' => ∃ v', e = .returned v' ∧ OwnB w1.heap.size w' v' l ∧ Below w1.heap.size w1 w') := ⟨fun w1 hx => clone_any _ l w1 (h.ext hx)⟩
  have hx0 : Ext w ((w.alloc (.cells #[.int .i64 (k), .string s, .slice a (l.length) c, .int .u64 (b), .int .u64 (d), .int .u64 (t)] 30)).alloc (.cells #[.int .i64 0, .string ⟨#[]⟩, .slice none 0 0, .int .u64 0, .int .u64 0, .int .u64 0] 30)) := Ext.alloc (Ext.alloc (Below.refl _ _) _) _
  have hE0 := Ext.blk (Ext.alloc (Below.refl _ (w.alloc (.cells #[.int .i64 (k), .string s, .slice a (l.length) c, .int .u64 (b), .int .u64 (d), .int .u64 (t)] 30))) (.cells #[.int .i64 0, .string ⟨#[]⟩, .slice none 0 0, .int .u64 0, .int .u64 0, .int .u64 0] 30)) (newblk w (.cells #[.int .i64 (k), .string s, .slice a (l.length) c, .int .u64 (b), .int .u64 (d), .int .u64 (t)] 30))
  have hR0 := newblk (w.alloc (.cells #[.int .i64 (k), .string s, .slice a (l.length) c, .int .u64 (b), .int .u64 (d), .int .u64 (t)] 30)) (.cells #[.int .i64 0, .string ⟨#[]⟩, .slice none 0 0, .int .u64 0, .int .u64 0, .int .u64 0] 30)
  rw [show (w.alloc (.cells #[.int .i64 (k), .string s, .slice a (l.length) c, .int .u64 (b), .int .u64 (d), .int .u64 (t)] 30)).heap.size = w.heap.size + 1 by simp] at hR0
  clear h
  go_enter Try.func46, Try.ntmps46
  go_wp2_with (first | (go_at_call 58; (with_reducible refine (c1.out _ hx0).mono ?_); rintro e w1 ⟨v', rfl, ho, hb⟩; obtain ⟨a1, c1', rfl⟩ := ho.shape; have hE := Ext.blk hb hE0; have hR := Ext.blk hb hR0; obtain ⟨k0, k1, k2, k3, k4, k5⟩ := blk6 hE; obtain ⟨g0, g1, g2, g3, g4, g5⟩ := blk6f hE; obtain ⟨m0, m1, m2, m3, m4, m5⟩ := blk6 hR; obtain ⟨f0, f1, f2, f3, f4, f5⟩ := blk6f hR; have hz : w.heap.size + 2 ≤ w1.heap.size := by have := hb.size; simp at this; omega))
  have ho' := ho.mono (C := w.heap.size + 2) (by simp)
  have hx1 := Ext.trans' hx0 hb
  refine bodyPost_ret (v := (.agg #[.int .i64 (k), .string s, .slice a1 (l.length) c1', .int .u64 (b), .int .u64 (d), .int .u64 (t)])) ?_ rfl ⟨_, _, rfl, ?_, ?_⟩
  · simp [results, Try.results46, go_sem, m0, m1, m2, m3, m4, m5]
  · exact ((ho'.setCell (p := ⟨w.heap.size, 2, none⟩) (by simp) _).st6 (B := w.heap.size + 1) (by omega) _ _ _ _ _ _).mono (by omega)
  · exact Ext.st6 (Below.setCell hx1 (p := ⟨w.heap.size, 2, none⟩) (by simp) _) (B := w.heap.size + 1) (by omega) _ _ _ _ _ _
theorem shr_and (s q : Nat) (hs : s < 2 ^ 6) : bits BinOp.and IntKind.u64 ((s : Int) / ((2 ^ q : Nat) : Int)) 1 = ((s.testBit q).toNat : Nat) := by
  have h1 : ((s : Int) / ((2 ^ q : Nat) : Int)) = ((s / 2 ^ q : Nat) : Int) := by simp
  have h2 : s / 2 ^ q ≤ s := Nat.div_le_self _ _
  have h3 := u64_and_nat (s / 2 ^ q) 1 (by omega) (by decide)
  rw [h1]
  refine h3.trans ?_
  rw [Nat.testBit_eq_decide_div_mod_eq, Nat.and_one_is_mod]
  have : s / 2 ^ q % 2 = 0 ∨ s / 2 ^ q % 2 = 1 := by omega
  rcases this with h | h <;> rw [h] <;> rfl
theorem shr_bit (s q : Nat) (hs : s < 2 ^ 6) (hb : s.testBit q = true) : (bits BinOp.and IntKind.u64 ((s : Int) / ((2 ^ q : Nat) : Int)) 1 == 1) = true := by
  rw [shr_and s q hs, hb]; rfl
theorem shr_bit0 (s q : Nat) (hs : s < 2 ^ 6) (hb : s.testBit q = false) : (bits BinOp.and IntKind.u64 ((s : Int) / ((2 ^ q : Nat) : Int)) 1 == 1) = false := by
  rw [shr_and s q hs, hb]; rfl
theorem or_bit (s q : Nat) (hs : s < 2 ^ 6) (hq : q ≤ 5) : bits BinOp.or IntKind.u64 (s : Int) ((2 ^ q : Nat) : Int) = ((s ||| 2 ^ q : Nat) : Int) :=
  u64_or_nat s (2 ^ q) (by omega) (by
    have : 2 ^ q ≤ 2 ^ 5 := Nat.pow_le_pow_right (by decide) hq
    omega)
set_option maxHeartbeats 4000000 in
theorem valid_any (pre : ByteArray) (ka : Option Addr) (kc : Nat) (ks : List Int) (room : Int) (old : Bool) (w : World) (hC : CellsAt w ka (ks.map (Value.int .i64))) (hn : ks.length ≤ 9223372036854775807) (hp : pre.size ≤ 9223372036854775807) :
    Calls Try.prog 37 #[.agg #[.string pre, .slice ka ks.length kc, .int .i64 room, .bool old]] w fun e w' => e = .returned (.bool (validB pre ks room)) ∧ Ext w w' := by
  have hx : Ext w (w.alloc (.cells #[.string pre, .slice ka ks.length kc, .int .i64 room, .bool old] 24)) := Ext.alloc (Below.refl _ _) _
  have HC := Box.mk (CellsAt.ext hx hC)
  have hB := newblk w (.cells #[.string pre, .slice ka ks.length kc, .int .i64 room, .bool old] 24)
  obtain ⟨m0, m1, m2, m3, _⟩ := blk4 hB
  have HX := Box.mk hx
  clear hC hB hx
  go_enter Try.func37, Try.ntmps37
  go_wp2
  generalize w.alloc (.cells #[.string pre, .slice ka ks.length kc, .int .i64 room, .bool old] 24) = w1 at *
  go_loop [3, 9] (fun sv i => ∃ j : Nat, j ≤ ks.length ∧ i = .int .i64 j ∧ sv = .int .u64 (seenN (ks.take j) : Nat) ∧ Box (∀ k ∈ ks.take j, 1 ≤ k ∧ k ≤ 5) ∧ Box (ks.take j).Nodup) (fun _ i => ks.length - (intOf i).toNat)
  case atStart => exact ⟨0, by omega, rfl, rfl, ⟨by simp⟩, ⟨by simp⟩⟩
  case round =>
    obtain ⟨j, hj, rfl, rfl, hin, hnd⟩ := hrel
    by_cases hlt : j < ks.length
    · obtain ⟨b, o, rfl, hc⟩ := HC.out j (.int .i64 ks[j]) (by rw [List.getElem?_map, List.getElem?_eq_getElem hlt]; rfl)
      have h0 : (0 : Int) ≤ (j : Int) := by omega
      have h1 : (j : Int) < (ks.length : Int) := by omega
      have hs6 := seenN_lt _ hin.out
      have hsn := seenN_snoc (ks.take j) ks[j]
      rw [← List.take_succ_eq_append_getElem hlt] at hsn
      have hbit := seenN_bit _ hin.out ks[j]
      have hmem : ks[j] ∈ ks := List.getElem_mem hlt
      have htk : ks.take (j + 1) = ks.take j ++ [ks[j]] := List.take_succ_eq_append_getElem hlt
      by_cases hk1 : ks[j] < 1
      · have hv : Box (validB pre ks room = false) := ⟨by
          unfold validB
          rw [decide_eq_false (fun h => by have := h.1 _ hmem; omega), Bool.false_and]⟩
        have d1 : decide (ks[j] < 1) = true := decide_eq_true hk1
        clear hbit hsn htk hmem
        generalize ks[j] = y at *
        go_wp2
        go_ret
        exact ⟨ret_bool hv.out.symm, HX.out⟩
      · by_cases hk5 : 5 < ks[j]
        · have hv : Box (validB pre ks room = false) := ⟨by
            unfold validB
            rw [decide_eq_false (fun h => by have := h.1 _ hmem; omega), Bool.false_and]⟩
          have d1 : decide (ks[j] < 1) = false := decide_eq_false hk1
          have d2 : decide (5 < ks[j]) = true := decide_eq_true hk5
          clear hbit hsn htk hmem
          generalize ks[j] = y at *
          go_wp2
          go_ret
          exact ⟨ret_bool hv.out.symm, HX.out⟩
        · have d1 : decide (ks[j] < 1) = false := decide_eq_false hk1
          have d2 : decide (5 < ks[j]) = false := decide_eq_false hk5
          have hbit2 := hbit (by omega)
          have hcase : ks[j] = 1 ∨ ks[j] = 2 ∨ ks[j] = 3 ∨ ks[j] = 4 ∨ ks[j] = 5 := by omega
          have hin2 : Box (∀ k ∈ ks.take (j + 1), 1 ≤ k ∧ k ≤ 5) := ⟨fun k hk => by
            rw [htk, List.mem_append, List.mem_singleton] at hk
            rcases hk with hk | rfl
            · exact hin.out k hk
            · omega⟩
          have hnd2 : Box (ks[j] ∉ ks.take j → (ks.take (j + 1)).Nodup) := ⟨fun h => by rw [htk]; exact snoc_nodup hnd.out h⟩
          have hbad : Box (ks[j] ∈ ks.take j → validB pre ks room = false) := ⟨fun h => by
            unfold validB
            rw [decide_eq_false, Bool.false_and]
            rintro ⟨_, h2⟩
            have h3 := h2.sublist (List.take_sublist (j + 1) ks)
            rw [htk, List.nodup_append] at h3
            exact h3.2.2 _ h _ (List.mem_singleton.2 rfl) rfl⟩
          have hso : Box (seenN (ks.take (j + 1)) = seenN (ks.take j) ||| 2 ^ ks[j].toNat) := ⟨hsn⟩
          rw [show seenN (ks.take (j + 1)) = seenN (ks.take j) ||| 2 ^ ks[j].toNat from hsn] at hsn
          clear hbit htk hmem hk1 hk5 d1 d2 hsn
          have hbit := hbit2
          clear hbit2
          by_cases hm : ks[j] ∈ ks.take j
          · rw [decide_eq_true hm] at hbit
            have hv := Box.mk (hbad.out hm)
            clear hm hbad hnd2 hin2 hso
            generalize seenN (ks.take j) = sn at *
            rcases hcase with h9 | h9 | h9 | h9 | h9
            all_goals
              rw [h9] at hc hbit
              have hb1 := shr_bit sn _ hs6 hbit
              clear h9 hbit
              simp only [Int.reduceToNat, Nat.reducePow, Int.cast_ofNat_Int] at hb1
              go_wp2
              go_ret
              exact ⟨ret_bool hv.out.symm, HX.out⟩
          · rw [decide_eq_false hm] at hbit
            have hnd3 := Box.mk (hnd2.out hm)
            clear hm hbad hnd2 hnd
            generalize seenN (ks.take j) = sn at *
            rcases hcase with h9 | h9 | h9 | h9 | h9
            all_goals
              rw [h9] at hc hbit hso
              have hb1 := shr_bit0 sn _ hs6 hbit
              have ho1 := (or_bit sn _ hs6 (by first | exact (by decide : Int.toNat 1 ≤ 5) | exact (by decide : Int.toNat 2 ≤ 5) | exact (by decide : Int.toNat 3 ≤ 5) | exact (by decide : Int.toNat 4 ≤ 5) | exact (by decide : Int.toNat 5 ≤ 5))).trans (congrArg (fun n : Nat => (n : Int)) hso.out.symm)
              clear h9 hbit hso
              simp only [Int.reduceToNat, Nat.reducePow, Int.cast_ofNat_Int] at hb1 ho1
              go_wp2
              go_round
              case rel => exact ⟨j + 1, by omega, by go_num, by rw [← ho1], hin2, hnd3⟩
              case measure => simp [intOf]; omega
    · obtain rfl : j = ks.length := by omega
      have hv : Box (validB pre ks room = (decide (pre.size ≤ 250) && (decide (1 ≤ room) && decide (room ≤ 1000)))) := ⟨by
        have h1 := hin.out; have h2 := hnd.out
        rw [List.take_length] at h1 h2
        unfold validB
        rw [decide_eq_true ⟨h1, h2⟩, Bool.true_and]⟩
      clear hin hnd
      by_cases g1 : pre.size ≤ 250
      · have e1 : decide (pre.size ≤ 250) = true := decide_eq_true g1
        have e2 : decide ((pre.size : Int) ≤ 250) = true := decide_eq_true (by omega)
        by_cases g2 : 1 ≤ room
        · have e3 : decide (1 ≤ room) = true := decide_eq_true g2
          go_wp2
          go_ret
          exact ⟨ret_bool (by rw [hv.out]; simp [e1, e3]), HX.out⟩
        · have e3 : decide (1 ≤ room) = false := decide_eq_false g2
          clear g2
          go_wp2
          go_ret
          exact ⟨ret_bool (by rw [hv.out]; simp [e1, e3]), HX.out⟩
      · have e1 : decide (pre.size ≤ 250) = false := decide_eq_false g1
        have e2 : decide ((pre.size : Int) ≤ 250) = false := decide_eq_false (by omega)
        clear g1
        go_wp2
        go_ret
        exact ⟨ret_bool (by rw [hv.out]; simp [e1]), HX.out⟩
end Go.Proofs.Ytnblbneehogadaa
