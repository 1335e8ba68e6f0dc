import Derived.Test.YtbhfpofcebepiaaB11
/- The contract of Best's closure. -/
namespace Go.Proofs.Ytbhfpofcebepiaa
open Go.RowKit Go.ChangeMaps
theorem bestB_len (tr : List Nat) (k : Nat) : ∀ (f i : Nat) (C : List Nat), bestB tr k f i C ≤ f
  | 0, _, _ => Nat.le_refl _
  | f + 1, i, C => by
    unfold bestB
    split
    · have := bestB_len tr k f (i + 1) C
      omega
    · split
      · have := bestB_len tr k f (i + 1) (C ++ [keyB tr i])
        omega
      · refine maxB_le fun x hx => ?_
        obtain ⟨u, _, rfl⟩ := List.mem_map.1 hx
        have := bestB_len tr k f (i + 1) (woB (C ++ [keyB tr i]) u)
        omega
theorem val_le (tr : List Nat) (k : Nat) (D : List Nat) (i s : Nat) : valB tr k D i s ≤ tr.length := Nat.le_trans (bestB_len tr k _ i _) (Nat.sub_le _ _)
theorem MemoOk.one {tr : List Nat} {k : Nat} {D : List Nat} {es : List MapEntry} (h : MemoOk tr k D es) (i s : Nat) : ∀ e ∈ es, e.key = (.agg #[.int .i64 (i : Nat), .int .u16 (s : Nat)]) → e.val = .int .i64 (valB tr k D i s : Nat) := by
  intro e he hk
  obtain ⟨i', s', _, h1, h2⟩ := h e he
  rw [h1] at hk
  simp only [Value.agg.injEq, Array.mk.injEq, List.cons.injEq, Value.int.injEq, true_and, and_true] at hk
  obtain ⟨e1, e2⟩ := hk
  obtain rfl : i' = i := by omega
  obtain rfl : s' = s := by omega
  exact h2
/-- The memo knows the state, or it knows it not. -/
theorem memo_two (es : List MapEntry) (v : Value) : (∃ e ∈ es, e.key = v) ∨ (∀ e ∈ es, e.key ≠ v) := by
  by_cases h : ∃ e ∈ es, e.key = v
  · exact Or.inl h
  · exact Or.inr fun e he hk => h ⟨e, he, hk⟩
theorem best_any (tr : List Nat) (k : Nat) (D : List Nat) (T K Nn Bc Sz KB NB : Nat) (hl : tr.length ≤ 14) (hk : k ≤ 1024) (hD : D.Nodup) (hD16 : D.length ≤ 16) (hall : ∀ i, i < tr.length → keyB tr i ∈ D) :
    ∀ (f i s : Nat) (many : Int) (w : World), i + f = tr.length → s < 65536 → many = ((setD D s).length : Nat) → (setD D s).length ≤ k → BestW tr k D T K Nn Bc Sz KB NB w →
    Calls Try.prog 42 #[(.agg #[.int .i64 i, .int .u16 s]), .int .i64 many, .pointer (some ⟨T, 0, none⟩), .pointer (some ⟨K, 0, none⟩), .pointer (some ⟨Nn, 0, none⟩), .pointer (some ⟨Bc, 0, none⟩), .pointer (some ⟨Sz, 0, none⟩)] w (BestP tr k D KB i s w) := by
  intro f
  induction f with
  | zero =>
    intro i s many w hi hs hm hmk h
    obtain rfl : i = tr.length := by omega
    refine (best_end tr k D T K Nn Bc Sz KB NB w h s many).mono ?_
    rintro e w' ⟨rfl, hx⟩
    refine ⟨by rw [val_end]; rfl, KeepB.of_ext hx, ?_⟩
    exact (h.ext hx).memo
  | succ f ih =>
    intro i s many w hi hs hm hmk h
    have hi2 : i < tr.length := by omega
    obtain ⟨es, clock, hB, hM⟩ := h.memo
    rcases memo_two es.toList (.agg #[.int .i64 (i : Nat), .int .u16 (s : Nat)]) with hin | hnot
    · refine (best_known tr k D T K Nn Bc Sz KB NB w h i s hi2 many es clock hB hM hin (hM.one i s)).mono ?_
      rintro e w' ⟨rfl, hx⟩
      exact ⟨rfl, KeepB.of_ext hx, (h.ext hx).memo⟩
    · have hr := hall i hi2
      have hb16 : D.idxOf (keyB tr i) < 16 := Nat.lt_of_lt_of_le (List.idxOf_lt_length_of_mem hr) hD16
      have hp16 := pow16 hb16
      have hq : s ||| 2 ^ D.idxOf (keyB tr i) < 65536 := Nat.or_lt_two_pow (n := 16) hs hp16
      have hlen : (setD D s).length ≤ 16 := Nat.le_trans (List.length_filter_le _ _) hD16
      have ecast : (((i + 1 : Nat) : Nat) : Int) = (i : Int) + 1 := by omega
      cases hbit : s.testBit (D.idxOf (keyB tr i)) with
      | true =>
        obtain ⟨h1, h2⟩ := val_hit (k := k) hD hi2 hr hbit
        refine best_hit tr k D T K Nn Bc Sz KB NB w h i s hi2 hl hs many es clock hB hM hnot _ rfl hr hb16 hbit _ rfl h1 (Nat.le_trans (val_le tr k D _ _) hl) (fun w' h' => ?_)
        have := ih (i + 1) (s ||| 2 ^ D.idxOf (keyB tr i)) many w' (by omega) hq (by rw [h2]; exact hm) (by rw [h2]; exact hmk) h'
        rw [ecast] at this
        exact this
      | false =>
        have hput := (val_put hD hr hbit).1
        by_cases hkk : (setD D s).length < k
        · have h1 := val_room (k := k) hD hi2 hr hbit hkk
          refine best_room tr k D T K Nn Bc Sz KB NB w h i s hi2 hl hs many es clock hB hM hnot _ rfl hr hb16 hbit (by omega) (by omega) _ h1.symm rfl (Nat.le_trans (val_le tr k D _ _) hl) (fun w' h' => ?_)
          have := ih (i + 1) (s ||| 2 ^ D.idxOf (keyB tr i)) (many + 1) w' (by omega) hq (by rw [hput, hm]; exact (Int.natCast_succ _).symm) (by rw [hput]; exact hkk) h'
          rw [ecast] at this
          exact this
        · obtain ⟨h1, h2⟩ := val_full (k := k) hD hD16 hi2 hr hbit (by omega)
          refine best_full tr k D T K Nn Bc Sz KB NB w h i s hi2 hl hs many es clock hB hM hnot _ rfl hr hb16 hbit (by omega) (by omega) hD16 h1 (fun j s => Nat.le_trans (val_le tr k D _ _) hl) (fun j hj hsj w' h' => ?_)
          have := ih (i + 1) ((s ||| 2 ^ D.idxOf (keyB tr i)) &&& (65535 ^^^ 2 ^ j)) many w' (by omega) (Nat.lt_of_le_of_lt Nat.and_le_left hq) (by rw [h2 j hj hsj]; exact hm) (by rw [h2 j hj hsj]; exact hmk) h'
          rw [ecast] at this
          exact this
end Go.Proofs.Ytbhfpofcebepiaa
