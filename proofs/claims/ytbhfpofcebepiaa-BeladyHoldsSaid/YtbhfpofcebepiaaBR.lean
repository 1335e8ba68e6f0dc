import Derived.Test.YtbhfpofcebepiaaBQ
/- What the memo holds: the greatest number of hits from an index and bits on: the plain laws of each branch. -/
namespace Go.Proofs.Ytbhfpofcebepiaa
/-- The keys whose bits are set. -/
def setD (D : List Nat) (s : Nat) : List Nat := D.filter fun x => s.testBit (D.idxOf x)
theorem setD_nodup {D : List Nat} (hD : D.Nodup) (s : Nat) : (setD D s).Nodup := hD.filter _
theorem setD_bits {D : List Nat} (hD : D.Nodup) (s : Nat) : BitsB D (setD D s) s := by
  refine ⟨fun x hx => (List.mem_filter.1 hx).1, fun j hj => ?_⟩
  unfold setD
  rw [List.mem_filter, idx_getD hD hj]
  exact ⟨fun h => ⟨getD_mem hj, h⟩, fun h => h.2⟩
theorem bits_perm {D C : List Nat} {s : Nat} (hD : D.Nodup) (h : BitsB D C s) (hn : C.Nodup) : C.Perm (setD D s) := by
  rw [List.perm_ext_iff_of_nodup hn (setD_nodup hD s)]
  intro x
  unfold setD
  rw [List.mem_filter]
  constructor
  · intro hx
    have hxD := h.sub x hx
    exact ⟨hxD, (h.bit _ (List.idxOf_lt_length_of_mem hxD)).2 (by rw [getD_idx hxD]; exact hx)⟩
  · rintro ⟨hxD, hb⟩
    have := (h.bit _ (List.idxOf_lt_length_of_mem hxD)).1 hb
    rwa [getD_idx hxD] at this
/-- The greatest number of hits from a state on. -/
def valB (tr : List Nat) (k : Nat) (D : List Nat) (i s : Nat) : Nat := bestB tr k (tr.length - i) i (setD D s)
theorem val_end (tr : List Nat) (k : Nat) (D : List Nat) (s : Nat) : valB tr k D tr.length s = 0 := by
  unfold valB
  rw [Nat.sub_self]; rfl
theorem val_unfold {tr : List Nat} {k : Nat} {D : List Nat} {i s : Nat} (hi : i < tr.length) : valB tr k D i s = (if keyB tr i ∈ setD D s then 1 + bestB tr k (tr.length - (i + 1)) (i + 1) (setD D s) else if (setD D s).length + 1 ≤ k then bestB tr k (tr.length - (i + 1)) (i + 1) (setD D s ++ [keyB tr i]) else maxB ((setD D s).map fun u => bestB tr k (tr.length - (i + 1)) (i + 1) (woB (setD D s ++ [keyB tr i]) u))) := by
  unfold valB
  rw [show tr.length - i = (tr.length - (i + 1)) + 1 by omega]
  rfl
theorem val_bit {tr D : List Nat} {i s : Nat} (hD : D.Nodup) (hr : keyB tr i ∈ D) : s.testBit (D.idxOf (keyB tr i)) = true ↔ keyB tr i ∈ setD D s := by
  rw [(setD_bits hD s).bit _ (List.idxOf_lt_length_of_mem hr), getD_idx hr]
section
variable {tr : List Nat} {k : Nat} {D : List Nat} (hD : D.Nodup) (hl : D.length ≤ 16) {i s : Nat} (hi : i < tr.length) (hr : keyB tr i ∈ D)
include hD hi hr
theorem val_hit (hb : s.testBit (D.idxOf (keyB tr i)) = true) : valB tr k D i s = 1 + valB tr k D (i + 1) (s ||| 2 ^ D.idxOf (keyB tr i)) ∧ (setD D (s ||| 2 ^ D.idxOf (keyB tr i))).length = (setD D s).length := by
  have hm := (val_bit hD hr).1 hb
  have hp : (setD D s).Perm (setD D (s ||| 2 ^ D.idxOf (keyB tr i))) := bits_perm hD (((setD_bits hD s).put hD hr).same (fun x => by
    rw [List.mem_append, List.mem_singleton]
    exact ⟨fun h1 => h1.elim id (fun e => e ▸ hm), Or.inl⟩)) (setD_nodup hD s)
  refine ⟨?_, hp.length_eq.symm⟩
  rw [val_unfold hi, if_pos hm]
  unfold valB
  rw [bestB_perm tr k _ _ _ _ hp]
omit hi in
theorem val_put (hb : s.testBit (D.idxOf (keyB tr i)) = false) : (setD D (s ||| 2 ^ D.idxOf (keyB tr i))).length = (setD D s).length + 1 ∧ (setD D s ++ [keyB tr i]).Perm (setD D (s ||| 2 ^ D.idxOf (keyB tr i))) ∧ keyB tr i ∉ setD D s := by
  have hm : keyB tr i ∉ setD D s := fun h => by rw [(val_bit hD hr).2 h] at hb; cases hb
  have hp := bits_perm hD ((setD_bits hD s).put hD hr) (snoc_nodup (setD_nodup hD s) hm)
  refine ⟨?_, hp, hm⟩
  rw [← hp.length_eq, List.length_append]; rfl
theorem val_room (hb : s.testBit (D.idxOf (keyB tr i)) = false) (hk : (setD D s).length < k) : valB tr k D i s = valB tr k D (i + 1) (s ||| 2 ^ D.idxOf (keyB tr i)) := by
  obtain ⟨_, hp, hm⟩ := val_put hD hr hb
  rw [val_unfold hi, if_neg hm, if_pos (by omega)]
  unfold valB
  rw [bestB_perm tr k _ _ _ _ hp]
include hl in
theorem val_full (hb : s.testBit (D.idxOf (keyB tr i)) = false) (hk : k ≤ (setD D s).length) :
    valB tr k D i s = maxB ((List.range D.length).map fun j => if s.testBit j then valB tr k D (i + 1) ((s ||| 2 ^ D.idxOf (keyB tr i)) &&& (65535 ^^^ 2 ^ j)) else 0) ∧
    ∀ j, j < D.length → s.testBit j = true → (setD D ((s ||| 2 ^ D.idxOf (keyB tr i)) &&& (65535 ^^^ 2 ^ j))).length = (setD D s).length := by
  obtain ⟨_, hp, hm⟩ := val_put hD hr hb
  have hput := (setD_bits hD s).put hD hr
  have hn := snoc_nodup (setD_nodup hD s) hm
  have one : ∀ j, j < D.length → s.testBit j = true → (woB (setD D s ++ [keyB tr i]) (D.getD j 0)).Perm (setD D ((s ||| 2 ^ D.idxOf (keyB tr i)) &&& (65535 ^^^ 2 ^ j))) := fun j hj _ => bits_perm hD (hput.cut hD hl hj) (woB_nodup _ hn)
  refine ⟨?_, fun j hj hs => ?_⟩
  · rw [val_unfold hi, if_neg hm, if_neg (by omega)]
    refine maxB_congr (fun x hx => ?_) (fun x hx => ?_)
    · obtain ⟨u, hu, rfl⟩ := List.mem_map.1 hx
      have huD := (setD_bits hD s).sub u hu
      have hj := List.idxOf_lt_length_of_mem huD
      have hs := ((setD_bits hD s).bit _ hj).2 (by rw [getD_idx huD]; exact hu)
      refine maxB_ge (List.mem_map.2 ⟨D.idxOf u, by simpa using hj, ?_⟩)
      rw [if_pos hs]
      unfold valB
      have := one _ hj hs
      rw [getD_idx huD] at this
      rw [bestB_perm tr k _ _ _ _ this]
    · obtain ⟨j, hj, rfl⟩ := List.mem_map.1 hx
      have hj2 : j < D.length := by simpa using hj
      by_cases hs : s.testBit j = true
      · rw [if_pos hs]
        unfold valB
        rw [← bestB_perm tr k _ _ _ _ (one j hj2 hs)]
        exact maxB_ge (List.mem_map.2 ⟨_, ((setD_bits hD s).bit j hj2).1 hs, rfl⟩)
      · rw [if_neg hs]
        exact Nat.zero_le _
  · rw [← (one j hj hs).length_eq]
    have := woB_len _ _ hn (List.mem_append.2 (Or.inl (((setD_bits hD s).bit j hj).1 hs)))
    rw [List.length_append] at this
    simpa using this
end
/-- What Best answers. -/
theorem val_opt (tr : List Nat) (k : Nat) (hk : 1 ≤ k) : valB tr k (keysD tr tr.length) 0 0 = optH tr k tr.length := by
  rw [← best_eq tr k hk]
  unfold valB
  rw [Nat.sub_zero]
  have : setD (keysD tr tr.length) 0 = [] := by
    unfold setD
    simp
  rw [this]
end Go.Proofs.Ytbhfpofcebepiaa
