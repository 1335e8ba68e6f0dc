import Derived.Test.YtbhfpofcebepiaaBM
/- Trying all policies finds the optimal one's hits; with room for all keys each is missed once: the plain laws. -/
namespace Go.Proofs.Ytbhfpofcebepiaa
/-- The greatest number by a list of numbers. -/
def maxB : List Nat → Nat
  | [] => 0
  | x :: l => max x (maxB l)
theorem maxB_le {l : List Nat} {m : Nat} (h : ∀ x ∈ l, x ≤ m) : maxB l ≤ m := by
  induction l with
  | nil => exact Nat.zero_le _
  | cons x l ih => exact Nat.max_le.2 ⟨h x (by simp), ih (fun y hy => h y (by simp [hy]))⟩
theorem maxB_ge {l : List Nat} {x : Nat} (h : x ∈ l) : x ≤ maxB l := by
  induction l with
  | nil => cases h
  | cons y l ih =>
    show x ≤ max y (maxB l)
    rcases List.mem_cons.1 h with rfl | h
    · exact Nat.le_max_left _ _
    · exact Nat.le_trans (ih h) (Nat.le_max_right _ _)
/-- The greatest number of hits from an index on, f requests before the end. -/
def bestB (tr : List Nat) (k : Nat) : Nat → Nat → List Nat → Nat
  | 0, _, _ => 0
  | f + 1, i, C => if keyB tr i ∈ C then 1 + bestB tr k f (i + 1) C else if C.length + 1 ≤ k then bestB tr k f (i + 1) (C ++ [keyB tr i]) else maxB (C.map fun u => bestB tr k f (i + 1) (woB (C ++ [keyB tr i]) u))
/-- The optimal policy's hits from an index on. -/
def optR (tr : List Nat) (k : Nat) : Nat → Nat → List Nat → Nat
  | 0, _, _ => 0
  | f + 1, i, O => (if keyB tr i ∈ O then 1 else 0) + optR tr k f (i + 1) (optN k O (vicB tr (i + 1) O) (keyB tr i))
theorem optR_eq (tr : List Nat) (k : Nat) : ∀ f i, optH tr k i + optR tr k f i (optS tr k i) = optH tr k (i + f)
  | 0, i => rfl
  | f + 1, i => by
    show optH tr k i + ((if keyB tr i ∈ optS tr k i then 1 else 0) + optR tr k f (i + 1) (optS tr k (i + 1))) = _
    have := optR_eq tr k f (i + 1)
    have e : optH tr k (i + 1) = optH tr k i + if keyB tr i ∈ optS tr k i then 1 else 0 := rfl
    rw [show i + (f + 1) = i + 1 + f by omega, ← this, e]
    omega
theorem InvB.perm {tr : List Nat} {k i : Nat} {C C' O : List Nat} {hC hO : Nat} (h : InvB tr k i C O hC hO) (p : C.Perm C') : InvB tr k i C' O hC hO :=
  ⟨p.nodup_iff.1 h.nc, h.no, by rw [← p.length_eq]; exact h.lc, h.lo, fun t ht => by
    have := h.inv t ht
    unfold cntB at this ⊢
    rw [← p.countP_eq]
    exact this⟩
theorem woB_perm {C : List Nat} {r : Nat} (hn : C.Nodup) (hr : r ∈ C) : (woB C r ++ [r]).Perm C := by
  induction C with
  | nil => cases hr
  | cons a l ih =>
    rw [List.nodup_cons] at hn
    by_cases e : a = r
    · subst e
      have : woB (a :: l) a = l := by
        unfold woB
        rw [List.filter_cons, if_neg (by simp)]
        exact woB_no l a hn.1
      rw [this]
      exact (List.perm_append_comm (l₁ := l) (l₂ := [a]))
    · have hr2 : r ∈ l := by
        rcases List.mem_cons.1 hr with h | h
        · exact absurd h.symm e
        · exact h
      have : woB (a :: l) r = a :: woB l r := by
        unfold woB
        rw [List.filter_cons, if_pos (by simpa using e)]
      rw [this]
      exact (ih hn.2 hr2).cons a
theorem woB_snoc {C : List Nat} {r u : Nat} (hr : r ∉ C) (hu : u ∈ C) : woB (C ++ [r]) u = polN C (some u) r := by
  have hne : r ≠ u := fun e => hr (e ▸ hu)
  show woB (C ++ [r]) u = woB (woB C u) r ++ [r]
  rw [woB_no (woB C u) r (fun h => hr (woB_mem.1 h).1)]
  unfold woB
  rw [List.filter_append]
  congr 1
  simp [hne]
theorem best_le (tr : List Nat) (k : Nat) (hk : 1 ≤ k) : ∀ (f i : Nat) (C O : List Nat) (hC hO : Nat), InvB tr k i C O hC hO → i + f = tr.length → bestB tr k f i C + hC ≤ optR tr k f i O + hO
  | 0, i, C, O, hC, hO, h, _ => by
    have := h.hits
    show 0 + hC ≤ 0 + hO
    omega
  | f + 1, i, C, O, hC, hO, h, hl => by
    have hr := keyB_at tr i (by omega)
    have hv : keyB tr i ∉ O → O.length = k → FarB tr (i + 1) O (vicB tr (i + 1) O) := fun _ hf => vicB_far tr (i + 1) O (fun e => by rw [e] at hf; simp at hf; omega)
    show bestB tr k (f + 1) i C + hC ≤ (if keyB tr i ∈ O then 1 else 0) + optR tr k f (i + 1) (optN k O (vicB tr (i + 1) O) (keyB tr i)) + hO
    unfold bestB
    by_cases hrC : keyB tr i ∈ C
    · rw [if_pos hrC]
      have hp := woB_perm h.nc hrC
      have hs := h.step (keyB tr i) (vicB tr (i + 1) O) none hr hv (fun u hu => by cases hu) (by show (woB C _ ++ [_]).length ≤ k; rw [hp.length_eq]; exact h.lc)
      rw [if_pos hrC] at hs
      have := best_le tr k hk f (i + 1) C _ _ _ (hs.perm hp) (by omega)
      omega
    · rw [if_neg hrC]
      by_cases hf : C.length + 1 ≤ k
      · rw [if_pos hf]
        have e : polN C none (keyB tr i) = C ++ [keyB tr i] := by
          show woB C _ ++ [_] = _
          rw [woB_no C _ hrC]
        have hs := h.step (keyB tr i) (vicB tr (i + 1) O) none hr hv (fun u hu => by cases hu) (by rw [e, List.length_append]; exact hf)
        rw [if_neg hrC, e] at hs
        have := best_le tr k hk f (i + 1) _ _ _ _ hs (by omega)
        omega
      · rw [if_neg hf]
        have key : ∀ x ∈ C.map (fun u => bestB tr k f (i + 1) (woB (C ++ [keyB tr i]) u)), x ≤ (if keyB tr i ∈ O then 1 else 0) + optR tr k f (i + 1) (optN k O (vicB tr (i + 1) O) (keyB tr i)) + hO - hC := by
          intro x hx
          obtain ⟨u, hu, rfl⟩ := List.mem_map.1 hx
          have hw := woB_len C u h.nc hu
          have hlc := h.lc
          have hs := h.step (keyB tr i) (vicB tr (i + 1) O) (some u) hr hv (fun u' hu' => by cases hu'; exact ⟨hu, hrC⟩) (by
            show (woB (woB C u) _ ++ [_]).length ≤ k
            rw [woB_no (woB C u) _ (fun hm => hrC (woB_mem.1 hm).1), List.length_append]
            simp; omega)
          rw [if_neg hrC, ← woB_snoc hrC hu] at hs
          have := best_le tr k hk f (i + 1) _ _ _ _ hs (by omega)
          omega
        have h1 := maxB_le key
        have h2 := h.hits
        have h3 : hC ≤ (if keyB tr i ∈ O then 1 else 0) + optR tr k f (i + 1) (optN k O (vicB tr (i + 1) O) (keyB tr i)) + hO := by omega
        omega
theorem best_ge (tr : List Nat) (k : Nat) (hk : 1 ≤ k) : ∀ (f i : Nat) (O : List Nat), O.Nodup → O.length ≤ k → optR tr k f i O ≤ bestB tr k f i O
  | 0, _, _, _, _ => Nat.le_refl _
  | f + 1, i, O, hn, hl => by
    show (if keyB tr i ∈ O then 1 else 0) + optR tr k f (i + 1) (optN k O (vicB tr (i + 1) O) (keyB tr i)) ≤ _
    unfold bestB optN
    by_cases hr : keyB tr i ∈ O
    · rw [if_pos hr, if_pos hr, if_pos hr]
      have := best_ge tr k hk f (i + 1) O hn hl
      omega
    · rw [if_neg hr, if_neg hr, if_neg hr]
      by_cases hf : O.length = k
      · rw [if_pos hf, if_neg (by omega)]
        have hvm := (vicB_far tr (i + 1) O (fun e => by rw [e] at hf; simp at hf; omega)).mem
        have hw := woB_len O _ hn hvm
        have hnw : keyB tr i ∉ woB O (vicB tr (i + 1) O) := fun h => hr (woB_mem.1 h).1
        have e : woB (O ++ [keyB tr i]) (vicB tr (i + 1) O) = woB O (vicB tr (i + 1) O) ++ [keyB tr i] := by
          rw [woB_snoc hr hvm]
          show woB (woB O _) _ ++ [_] = _
          rw [woB_no _ _ hnw]
        have h1 := best_ge tr k hk f (i + 1) (woB O (vicB tr (i + 1) O) ++ [keyB tr i]) (snoc_nodup (woB_nodup _ hn) hnw) (by rw [List.length_append]; simp; omega)
        have h2 := maxB_ge (List.mem_map.2 ⟨vicB tr (i + 1) O, hvm, rfl⟩ : _ ∈ O.map fun u => bestB tr k f (i + 1) (woB (O ++ [keyB tr i]) u))
        rw [e] at h2
        omega
      · rw [if_neg hf, if_pos (by omega)]
        have := best_ge tr k hk f (i + 1) (O ++ [keyB tr i]) (snoc_nodup hn hr) (by rw [List.length_append]; simp; omega)
        omega
theorem best_eq (tr : List Nat) (k : Nat) (hk : 1 ≤ k) : bestB tr k tr.length 0 [] = optH tr k tr.length := by
  have h1 := best_le tr k hk tr.length 0 [] [] 0 0 ⟨List.nodup_nil, List.nodup_nil, Nat.zero_le _, Nat.zero_le _, fun t _ => Nat.le_refl _⟩ (by omega)
  have h2 := best_ge tr k hk tr.length 0 [] List.nodup_nil (Nat.zero_le _)
  have h3 := optR_eq tr k tr.length 0
  have e : optH tr k 0 = 0 := rfl
  have e2 : optS tr k 0 = [] := rfl
  rw [e, e2, Nat.zero_add, Nat.zero_add] at h3
  omega
/- room for all keys -/
/-- How many requests ahead of an index are the first ones for their keys. -/
def firstB (tr : List Nat) (n : Nat) : Nat := (List.range n).countP (fun i => decide (nxB tr (keyB tr i) 0 = i))
theorem nxB_first (tr : List Nat) (x n : Nat) (hn : n ≤ tr.length) : nxB tr x 0 < n ↔ ∃ j, j < n ∧ keyB tr j = x := by
  induction n with
  | zero => exact ⟨fun h => absurd h (by omega), fun ⟨j, hj, _⟩ => absurd hj (by omega)⟩
  | succ n ih =>
    have h1 := ih (by omega)
    have ht := keyB_at tr n (by omega)
    have go : ∀ m, m ≤ n → (∀ j, j < m → keyB tr j ≠ x) → nxB tr x 0 = nxB tr x m := by
      intro m
      induction m with
      | zero => intro _ _; rfl
      | succ m ihm =>
        intro hm hne
        rw [ihm (by omega) (fun j hj => hne j (by omega))]
        exact nxB_step tr x (keyB tr m) m (keyB_at tr m (by omega)) (hne m (by omega))
    constructor
    · intro h
      by_cases hlt : nxB tr x 0 < n
      · obtain ⟨j, hj, e⟩ := h1.1 hlt
        exact ⟨j, by omega, e⟩
      · refine ⟨n, by omega, ?_⟩
        apply Classical.byContradiction
        intro hne
        have h2 := go n (Nat.le_refl _) (fun j hj e => hlt (h1.2 ⟨j, hj, e⟩))
        rw [nxB_step tr x (keyB tr n) n ht hne] at h2
        have := nxB_ge tr x (n + 1)
        omega
    · rintro ⟨j, hj, rfl⟩
      by_cases hlt : ∃ j', j' < n ∧ keyB tr j' = keyB tr j
      · have := h1.2 hlt
        omega
      · have hjn : j = n := Classical.byContradiction fun e => hlt ⟨j, by omega, rfl⟩
        subst hjn
        rw [go j (Nat.le_refl _) (fun j' hj' e => hlt ⟨j', hj', e⟩), nxB_here tr _ j ht]
        omega
theorem firstB_succ (tr : List Nat) (n : Nat) : firstB tr (n + 1) = firstB tr n + if nxB tr (keyB tr n) 0 = n then 1 else 0 := by
  unfold firstB
  rw [List.range_succ, List.countP_append, List.countP_cons, List.countP_nil]
  simp only [decide_eq_true_eq, Nat.zero_add]
theorem firstB_mono (tr : List Nat) (n m : Nat) (h : n ≤ m) : firstB tr n ≤ firstB tr m := by
  induction m with
  | zero => rw [show n = 0 by omega]; exact Nat.le_refl _
  | succ m ih =>
    by_cases e : n = m + 1
    · rw [e]; exact Nat.le_refl _
    · have := ih (by omega)
      rw [firstB_succ]
      omega
theorem opt_room (tr : List Nat) (k : Nat) (hk : firstB tr tr.length ≤ k) (n : Nat) (hn : n ≤ tr.length) : (∀ x, x ∈ optS tr k n ↔ ∃ j, j < n ∧ keyB tr j = x) ∧ (optS tr k n).length = firstB tr n ∧ optH tr k n + firstB tr n = n := by
  induction n with
  | zero => exact ⟨fun x => ⟨fun h => (by cases h), fun ⟨j, hj, _⟩ => absurd hj (by omega)⟩, rfl, rfl⟩
  | succ n ih =>
    obtain ⟨h1, h2, h3⟩ := ih (by omega)
    have hf := nxB_first tr (keyB tr n) n (by omega)
    have hf2 := nxB_first tr (keyB tr n) (n + 1) hn
    have hlt : nxB tr (keyB tr n) 0 < n + 1 := hf2.2 ⟨n, by omega, rfl⟩
    have hs := firstB_succ tr n
    have e : optH tr k (n + 1) = optH tr k n + if keyB tr n ∈ optS tr k n then 1 else 0 := rfl
    have e2 : optS tr k (n + 1) = optN k (optS tr k n) (vicB tr (n + 1) (optS tr k n)) (keyB tr n) := rfl
    rw [e, e2]
    by_cases hr : keyB tr n ∈ optS tr k n
    · have h4 := hf.2 ((h1 _).1 hr)
      rw [if_neg (show ¬ nxB tr (keyB tr n) 0 = n by omega)] at hs
      unfold optN
      rw [if_pos hr, if_pos hr]
      refine ⟨fun x => ⟨fun h => ?_, fun ⟨j, hj, hx⟩ => ?_⟩, by omega, by omega⟩
      · obtain ⟨j, hj, hx⟩ := (h1 x).1 h
        exact ⟨j, by omega, hx⟩
      · by_cases ej : j = n
        · rw [← hx, ej]; exact hr
        · exact (h1 x).2 ⟨j, by omega, hx⟩
    · have h4 : ¬ nxB tr (keyB tr n) 0 < n := fun h => hr ((h1 _).2 (hf.1 h))
      rw [if_pos (show nxB tr (keyB tr n) 0 = n by omega)] at hs
      have hm := firstB_mono tr (n + 1) tr.length hn
      unfold optN
      rw [if_neg hr, if_neg hr, if_neg (by omega)]
      refine ⟨fun x => ⟨fun h => ?_, fun ⟨j, hj, hx⟩ => ?_⟩, by rw [List.length_append]; simp; omega, by omega⟩
      · rcases List.mem_append.1 h with h | h
        · obtain ⟨j, hj, hx⟩ := (h1 x).1 h
          exact ⟨j, by omega, hx⟩
        · simp at h
          exact ⟨n, by omega, h.symm⟩
      · by_cases ej : j = n
        · rw [← hx, ej]; simp
        · exact List.mem_append.2 (Or.inl ((h1 x).2 ⟨j, by omega, hx⟩))
/-- With room for all keys each one is missed once. -/
theorem opt_all (tr : List Nat) (k : Nat) (hk : firstB tr tr.length ≤ k) : optH tr k tr.length + firstB tr tr.length = tr.length := (opt_room tr k hk tr.length (Nat.le_refl _)).2.2
end Go.Proofs.Ytbhfpofcebepiaa
