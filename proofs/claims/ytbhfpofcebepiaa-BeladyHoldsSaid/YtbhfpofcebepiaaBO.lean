import Derived.Test.YtbhfpofcebepiaaBN
/- Trying all policies with sets of keys as bits: the plain law. -/
namespace Go.Proofs.Ytbhfpofcebepiaa
theorem maxB_congr {l m : List Nat} (h1 : ∀ x ∈ l, x ≤ maxB m) (h2 : ∀ x ∈ m, x ≤ maxB l) : maxB l = maxB m := Nat.le_antisymm (maxB_le h1) (maxB_le h2)
/-- As bestB, with the keys as bits; D: the keys in the order of their numbers. -/
def bestM (tr : List Nat) (k : Nat) (D : List Nat) : Nat → Nat → Nat → Nat → Nat
  | 0, _, _, _ => 0
  | f + 1, i, s, many =>
    if s.testBit (D.idxOf (keyB tr i)) then 1 + bestM tr k D f (i + 1) (s ||| 2 ^ D.idxOf (keyB tr i)) many
    else if many < k then bestM tr k D f (i + 1) (s ||| 2 ^ D.idxOf (keyB tr i)) (many + 1)
    else maxB ((List.range D.length).map fun j => if s.testBit j then bestM tr k D f (i + 1) ((s ||| 2 ^ D.idxOf (keyB tr i)) &&& (65535 ^^^ 2 ^ j)) many else 0)
/-- The bits are those of the keys. -/
structure BitsB (D C : List Nat) (s : Nat) : Prop where
  sub : ∀ x ∈ C, x ∈ D
  bit : ∀ j, j < D.length → (s.testBit j = true ↔ D.getD j 0 ∈ C)
theorem getD_idx {D : List Nat} {x : Nat} (h : x ∈ D) : D.getD (D.idxOf x) 0 = x := by
  have hi := List.idxOf_lt_length_of_mem h
  rw [List.getD_eq_getElem?_getD, List.getElem?_eq_getElem hi]
  simp
theorem idx_getD {D : List Nat} (hD : D.Nodup) {j : Nat} (hj : j < D.length) : D.idxOf (D.getD j 0) = j := by
  rw [List.getD_eq_getElem?_getD, List.getElem?_eq_getElem hj]
  exact hD.idxOf_getElem j hj
theorem getD_mem {D : List Nat} {j : Nat} (hj : j < D.length) : D.getD j 0 ∈ D := by
  rw [List.getD_eq_getElem?_getD, List.getElem?_eq_getElem hj]
  exact List.getElem_mem hj
theorem BitsB.put {D C : List Nat} {s r : Nat} (h : BitsB D C s) (hD : D.Nodup) (hr : r ∈ D) : BitsB D (C ++ [r]) (s ||| 2 ^ D.idxOf r) := by
  refine ⟨fun x hx => ?_, fun j hj => ?_⟩
  · rcases List.mem_append.1 hx with hx | hx
    · exact h.sub x hx
    · simp at hx; rw [hx]; exact hr
  · rw [Nat.testBit_or, Bool.or_eq_true, h.bit j hj, List.mem_append, List.mem_singleton, Nat.testBit_two_pow]
    constructor
    · rintro (h1 | h1)
      · exact Or.inl h1
      · right
        have := of_decide_eq_true h1
        rw [← this]
        exact getD_idx hr
    · rintro (h1 | h1)
      · exact Or.inl h1
      · right
        rw [← h1]
        exact decide_eq_true (idx_getD hD hj)
theorem BitsB.same {D C C' : List Nat} {s : Nat} (h : BitsB D C s) (e : ∀ x, x ∈ C ↔ x ∈ C') : BitsB D C' s :=
  ⟨fun x hx => h.sub x ((e x).2 hx), fun j hj => (h.bit j hj).trans (e _)⟩
theorem BitsB.cut {D C : List Nat} {s j : Nat} (h : BitsB D C s) (hD : D.Nodup) (hl : D.length ≤ 16) (hj : j < D.length) : BitsB D (woB C (D.getD j 0)) (s &&& (65535 ^^^ 2 ^ j)) := by
  refine ⟨fun x hx => h.sub x (woB_mem.1 hx).1, fun i hi => ?_⟩
  have h16 : (65535 : Nat).testBit i = true := by
    rw [show (65535 : Nat) = 2 ^ 16 - 1 from rfl, Nat.testBit_two_pow_sub_one]
    exact decide_eq_true (by omega)
  rw [Nat.testBit_and, Nat.testBit_xor, h16, Nat.testBit_two_pow, Bool.and_eq_true, h.bit i hi, woB_mem]
  constructor
  · rintro ⟨h1, h2⟩
    refine ⟨h1, fun e => ?_⟩
    have h3 := congrArg D.idxOf e
    rw [idx_getD hD hi, idx_getD hD hj] at h3
    subst h3
    simp at h2
  · rintro ⟨h1, h2⟩
    refine ⟨h1, ?_⟩
    have : ¬ j = i := fun e => h2 (by rw [e])
    simp [this]
theorem bestB_perm (tr : List Nat) (k : Nat) : ∀ (f i : Nat) (C C' : List Nat), C.Perm C' → bestB tr k f i C = bestB tr k f i C'
  | 0, _, _, _, _ => rfl
  | f + 1, i, C, C', p => by
    unfold bestB
    have hm : keyB tr i ∈ C ↔ keyB tr i ∈ C' := p.mem_iff
    by_cases h : keyB tr i ∈ C
    · rw [if_pos h, if_pos (hm.1 h), bestB_perm tr k f (i + 1) C C' p]
    · rw [if_neg h, if_neg (fun h2 => h (hm.2 h2)), p.length_eq]
      by_cases hf : C'.length + 1 ≤ k
      · rw [if_pos hf, if_pos hf]
        exact bestB_perm tr k f (i + 1) _ _ (p.append_right _)
      · rw [if_neg hf, if_neg hf]
        have hw : ∀ u, bestB tr k f (i + 1) (woB (C ++ [keyB tr i]) u) = bestB tr k f (i + 1) (woB (C' ++ [keyB tr i]) u) := fun u => bestB_perm tr k f (i + 1) _ _ ((p.append_right _).filter _)
        refine maxB_congr (fun x hx => ?_) (fun x hx => ?_)
        · obtain ⟨u, hu, rfl⟩ := List.mem_map.1 hx
          rw [hw u]
          exact maxB_ge (List.mem_map.2 ⟨u, p.mem_iff.1 hu, rfl⟩)
        · obtain ⟨u, hu, rfl⟩ := List.mem_map.1 hx
          rw [← hw u]
          exact maxB_ge (List.mem_map.2 ⟨u, p.mem_iff.2 hu, rfl⟩)
theorem bestM_eq (tr : List Nat) (k : Nat) (D : List Nat) (hD : D.Nodup) (hl : D.length ≤ 16) (hall : ∀ i, i < tr.length → keyB tr i ∈ D) :
    ∀ (f i s : Nat) (C : List Nat), i + f = tr.length → C.Nodup → C.length ≤ k → BitsB D C s → bestM tr k D f i s C.length = bestB tr k f i C
  | 0, _, _, _, _, _, _, _ => rfl
  | f + 1, i, s, C, hi, hn, hk, hb => by
    have hr := hall i (by omega)
    have hbit : s.testBit (D.idxOf (keyB tr i)) = true ↔ keyB tr i ∈ C := by
      rw [hb.bit _ (List.idxOf_lt_length_of_mem hr), getD_idx hr]
    have hput := hb.put hD hr
    unfold bestM bestB
    by_cases h : keyB tr i ∈ C
    · rw [if_pos (hbit.2 h), if_pos h]
      have hs : BitsB D C (s ||| 2 ^ D.idxOf (keyB tr i)) := hput.same (fun x => by
        rw [List.mem_append, List.mem_singleton]
        exact ⟨fun h1 => h1.elim id (fun e => e ▸ h), Or.inl⟩)
      rw [bestM_eq tr k D hD hl hall f (i + 1) _ C (by omega) hn hk hs]
    · rw [if_neg (fun h2 => h (hbit.1 h2)), if_neg h]
      by_cases hf : C.length + 1 ≤ k
      · rw [if_pos hf, if_pos (by omega)]
        have := bestM_eq tr k D hD hl hall f (i + 1) _ (C ++ [keyB tr i]) (by omega) (snoc_nodup hn h) (by rw [List.length_append]; exact hf) hput
        rw [List.length_append] at this
        exact this
      · rw [if_neg hf, if_neg (by omega)]
        have one : ∀ j, j < D.length → D.getD j 0 ∈ C → bestM tr k D f (i + 1) ((s ||| 2 ^ D.idxOf (keyB tr i)) &&& (65535 ^^^ 2 ^ j)) C.length = bestB tr k f (i + 1) (woB (C ++ [keyB tr i]) (D.getD j 0)) := fun j hj hm => by
          have hw := woB_len (C ++ [keyB tr i]) (D.getD j 0) (snoc_nodup hn h) (List.mem_append.2 (Or.inl hm))
          rw [List.length_append] at hw
          have hw2 : (woB (C ++ [keyB tr i]) (D.getD j 0)).length = C.length := by simpa using hw
          have := bestM_eq tr k D hD hl hall f (i + 1) _ (woB (C ++ [keyB tr i]) (D.getD j 0)) (by omega) (woB_nodup _ (snoc_nodup hn h)) (by omega) (hput.cut hD hl hj)
          rw [hw2] at this
          exact this
        refine maxB_congr (fun x hx => ?_) (fun x hx => ?_)
        · obtain ⟨j, hj, rfl⟩ := List.mem_map.1 hx
          have hj2 : j < D.length := by simpa using hj
          by_cases ht : s.testBit j = true
          · rw [if_pos ht, one j hj2 ((hb.bit j hj2).1 ht)]
            exact maxB_ge (List.mem_map.2 ⟨_, (hb.bit j hj2).1 ht, rfl⟩)
          · rw [if_neg ht]
            exact Nat.zero_le _
        · obtain ⟨u, hu, rfl⟩ := List.mem_map.1 hx
          have hj := List.idxOf_lt_length_of_mem (hb.sub u hu)
          have hg := getD_idx (hb.sub u hu)
          refine maxB_ge (List.mem_map.2 ⟨D.idxOf u, by simpa using hj, ?_⟩)
          rw [if_pos ((hb.bit _ hj).2 (by rw [hg]; exact hu)), one _ hj (by rw [hg]; exact hu), hg]
end Go.Proofs.Ytbhfpofcebepiaa
