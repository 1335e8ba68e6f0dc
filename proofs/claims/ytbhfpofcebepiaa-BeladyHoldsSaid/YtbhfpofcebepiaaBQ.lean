import Derived.Test.YtbhfpofcebepiaaBO
/- Any policy that lets a key leave only if there is no room: its turns are those of a policy; the numbers of the keys. -/
namespace Go.Proofs.Ytbhfpofcebepiaa
/-- What such a policy keeps ahead of a request; vf: which key leaves. -/
def lazS (tr : List Nat) (k : Nat) (vf : Nat → List Nat → Nat) : Nat → List Nat
  | 0 => []
  | i + 1 => optN k (lazS tr k vf i) (vf i (lazS tr k vf i)) (keyB tr i)
def lazT (tr : List Nat) (k : Nat) (vf : Nat → List Nat → Nat) (i : Nat) : TnB :=
  if keyB tr i ∈ lazS tr k vf i then ⟨true, false, 0⟩ else if (lazS tr k vf i).length = k then ⟨false, true, vf i (lazS tr k vf i)⟩ else ⟨false, false, 0⟩
def lazTs (tr : List Nat) (k : Nat) (vf : Nat → List Nat → Nat) : List TnB := (List.range tr.length).map (lazT tr k vf)
theorem lazTs_at (tr : List Nat) (k : Nat) (vf : Nat → List Nat → Nat) (i : Nat) (h : i < tr.length) : tnB (lazTs tr k vf) i = lazT tr k vf i := by
  unfold tnB lazTs
  rw [List.getD_eq_getElem?_getD]
  simp [h]
theorem laz_pol (tr : List Nat) (k : Nat) (vf : Nat → List Nat → Nat) (hv : ∀ i K, K.length = k → vf i K ∈ K) (n : Nat) (hn : n ≤ tr.length) :
    SameB (polS tr (lazTs tr k vf) n) (lazS tr k vf n) ∧ (lazS tr k vf n).length ≤ k ∧ ∀ i, i < n → OkT tr k (lazTs tr k vf) i := by
  induction n with
  | zero => exact ⟨⟨List.nodup_nil, List.nodup_nil, fun x => Iff.rfl⟩, Nat.zero_le _, fun i hi => absurd hi (by omega)⟩
  | succ n ih =>
    obtain ⟨hs, hl, hok⟩ := ih (by omega)
    obtain ⟨hc, ho, hm⟩ := hs
    have hT := lazTs_at tr k vf n (by omega)
    have hmr := hm (keyB tr n)
    have key : SameB (polS tr (lazTs tr k vf) (n + 1)) (lazS tr k vf (n + 1)) ∧ (lazS tr k vf (n + 1)).length ≤ k := by
      show SameB (polN (polS tr (lazTs tr k vf) n) (tnB (lazTs tr k vf) n).who (keyB tr n)) (optN k (lazS tr k vf n) (vf n (lazS tr k vf n)) (keyB tr n)) ∧ (optN k (lazS tr k vf n) (vf n (lazS tr k vf n)) (keyB tr n)).length ≤ k
      rw [hT]
      unfold lazT optN polN TnB.who
      by_cases hr : keyB tr n ∈ lazS tr k vf n
      · rw [if_pos hr, if_pos hr]
        refine ⟨⟨?_, ho, fun x => ?_⟩, hl⟩
        · simp only [Bool.false_eq_true, if_false]
          exact snoc_nodup (woB_nodup _ hc) (fun h => (woB_mem.1 h).2 rfl)
        · simp only [Bool.false_eq_true, if_false, List.mem_append, woB_mem, List.mem_singleton]
          constructor
          · rintro (⟨h1, _⟩ | rfl)
            · exact (hm x).1 h1
            · exact hr
          · intro h1
            by_cases e : x = keyB tr n
            · exact Or.inr e
            · exact Or.inl ⟨(hm x).2 h1, e⟩
      · rw [if_neg hr, if_neg hr]
        by_cases hf : (lazS tr k vf n).length = k
        · rw [if_pos hf, if_pos hf]
          have hvm := hv n _ hf
          have hwl := woB_len _ _ ho hvm
          refine ⟨⟨?_, ?_, fun x => ?_⟩, by rw [List.length_append]; simp; omega⟩
          · simp only [if_true]
            exact snoc_nodup (woB_nodup _ (woB_nodup _ hc)) (fun h => (woB_mem.1 h).2 rfl)
          · exact snoc_nodup (woB_nodup _ ho) (fun h => hr (woB_mem.1 h).1)
          · simp only [if_true, List.mem_append, woB_mem, List.mem_singleton]
            constructor
            · rintro (⟨⟨h1, h2⟩, _⟩ | rfl)
              · exact Or.inl ⟨(hm x).1 h1, h2⟩
              · exact Or.inr rfl
            · rintro (⟨h1, h2⟩ | rfl)
              · exact Or.inl ⟨⟨(hm x).2 h1, h2⟩, fun e => hr (e ▸ h1)⟩
              · exact Or.inr rfl
        · rw [if_neg hf, if_neg hf]
          refine ⟨⟨?_, ?_, fun x => ?_⟩, by rw [List.length_append]; simp; omega⟩
          · simp only [Bool.false_eq_true, if_false]
            exact snoc_nodup (woB_nodup _ hc) (fun h => (woB_mem.1 h).2 rfl)
          · exact snoc_nodup ho hr
          · simp only [Bool.false_eq_true, if_false, List.mem_append, woB_mem, List.mem_singleton]
            constructor
            · rintro (⟨h1, _⟩ | rfl)
              · exact Or.inl ((hm x).1 h1)
              · exact Or.inr rfl
            · rintro (h1 | rfl)
              · exact Or.inl ⟨(hm x).2 h1, fun e => hr (e ▸ h1)⟩
              · exact Or.inr rfl
    have hhit : (tnB (lazTs tr k vf) n).hit = true ↔ keyB tr n ∈ lazS tr k vf n := by
      rw [hT]
      unfold lazT
      by_cases hr : keyB tr n ∈ lazS tr k vf n
      · rw [if_pos hr]; simp [hr]
      · rw [if_neg hr]
        split <;> simp [hr]
    refine ⟨key.1, key.2, fun i hi => ?_⟩
    by_cases e : i = n
    · subst e
      refine ⟨hhit.trans hmr.symm, ?_, ?_, ?_, by rw [key.1.len]; exact key.2⟩
      · rw [hT]
        unfold lazT
        split
        · intro _; rfl
        · split <;> simp
      · rw [hT]
        unfold lazT
        split
        · intro _; rfl
        · split
          · simp
          · intro _; rfl
      · rw [hT]
        unfold lazT
        split
        · simp
        · split
          · rename_i hf
            intro _
            exact (hm _).2 (hv i _ hf)
          · simp
    · exact hok i (by omega)
/-- No policy of that kind has more hits than the optimal one. -/
theorem laz_le (tr : List Nat) (k : Nat) (vf : Nat → List Nat → Nat) (hk : 1 ≤ k) (hv : ∀ i K, K.length = k → vf i K ∈ K) : polH (lazTs tr k vf) tr.length ≤ optH tr k tr.length :=
  opt_best tr k _ hk (laz_pol tr k vf hv tr.length (Nat.le_refl _)).2.2
/- the keys in the order in which they come -/
def keysD (tr : List Nat) : Nat → List Nat
  | 0 => []
  | n + 1 => if keyB tr n ∈ keysD tr n then keysD tr n else keysD tr n ++ [keyB tr n]
theorem keysD_nodup (tr : List Nat) : ∀ n, (keysD tr n).Nodup
  | 0 => List.nodup_nil
  | n + 1 => by
    unfold keysD
    split
    · exact keysD_nodup tr n
    · rename_i h
      exact snoc_nodup (keysD_nodup tr n) h
theorem keysD_mem (tr : List Nat) : ∀ n x, x ∈ keysD tr n ↔ ∃ j, j < n ∧ keyB tr j = x
  | 0, x => ⟨fun h => (by cases h), fun ⟨j, hj, _⟩ => absurd hj (by omega)⟩
  | n + 1, x => by
    have ih := keysD_mem tr n x
    unfold keysD
    constructor
    · intro h
      split at h
      · obtain ⟨j, hj, hx⟩ := ih.1 h
        exact ⟨j, by omega, hx⟩
      · rcases List.mem_append.1 h with h | h
        · obtain ⟨j, hj, hx⟩ := ih.1 h
          exact ⟨j, by omega, hx⟩
        · simp at h
          exact ⟨n, by omega, h.symm⟩
    · rintro ⟨j, hj, hx⟩
      by_cases e : j = n
      · subst e
        split
        · rename_i h; rw [← hx]; exact h
        · rw [← hx]; simp
      · have h2 := ih.2 ⟨j, by omega, hx⟩
        split
        · exact h2
        · exact List.mem_append.2 (Or.inl h2)
theorem keysD_len (tr : List Nat) : ∀ n, (keysD tr n).length ≤ n
  | 0 => Nat.le_refl _
  | n + 1 => by
    have ih := keysD_len tr n
    unfold keysD
    split
    · omega
    · rw [List.length_append]; simp; omega
theorem keysD_all (tr : List Nat) : ∀ i, i < tr.length → keyB tr i ∈ keysD tr tr.length := fun i hi => (keysD_mem tr tr.length _).2 ⟨i, hi, rfl⟩
/-- What Best answers: with the keys as bits it is the optimal policy's hits. -/
theorem bestM_opt (tr : List Nat) (k : Nat) (hk : 1 ≤ k) (h : tr.length ≤ 14) : bestM tr k (keysD tr tr.length) tr.length 0 0 0 = optH tr k tr.length := by
  have hl := keysD_len tr tr.length
  have := bestM_eq tr k (keysD tr tr.length) (keysD_nodup tr _) (by omega) (keysD_all tr) tr.length 0 0 [] (by omega) List.nodup_nil (Nat.zero_le _) ⟨fun x hx => (by cases hx), fun j _ => (by simp)⟩
  rw [best_eq tr k hk] at this
  exact this
end Go.Proofs.Ytbhfpofcebepiaa
