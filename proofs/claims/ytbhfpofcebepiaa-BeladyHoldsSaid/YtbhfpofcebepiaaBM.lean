/- The plain law of the optimal policy: no policy has more hits. -/
namespace Go.Proofs.Ytbhfpofcebepiaa

/-- The index of the next request for a key from an index on, or the number of requests. -/
def nxB (tr : List Nat) (k i : Nat) : Nat := i + ((tr.drop i).takeWhile (fun x => x != k)).length
theorem nxB_ge (tr : List Nat) (k i : Nat) : i ≤ nxB tr k i := Nat.le_add_right _ _
theorem nxB_le (tr : List Nat) (k i : Nat) (h : i ≤ tr.length) : nxB tr k i ≤ tr.length := by
  unfold nxB
  have := (List.takeWhile_sublist (fun x => x != k) (l := tr.drop i)).length_le
  rw [List.length_drop] at this
  omega
theorem nxB_here (tr : List Nat) (k i : Nat) (h : tr[i]? = some k) : nxB tr k i = i := by
  unfold nxB
  have hi := (List.getElem?_eq_some_iff.1 h).1
  have hk := (List.getElem?_eq_some_iff.1 h).2
  rw [List.drop_eq_getElem_cons hi, hk]
  simp
theorem nxB_step (tr : List Nat) (k r i : Nat) (h : tr[i]? = some r) (hn : r ≠ k) : nxB tr k i = nxB tr k (i + 1) := by
  unfold nxB
  have hi := (List.getElem?_eq_some_iff.1 h).1
  have hk := (List.getElem?_eq_some_iff.1 h).2
  rw [List.drop_eq_getElem_cons hi, hk, List.takeWhile_cons, if_pos (by simpa using hn)]
  simp; omega
theorem nxB_end (tr : List Nat) (k i : Nat) (h : tr.length ≤ i) : nxB tr k i = i := by
  unfold nxB
  rw [List.drop_eq_nil_of_le h]; rfl
/-- The keys but for one. -/
def woB (S : List Nat) (u : Nat) : List Nat := S.filter (fun x => x != u)
theorem woB_no (S : List Nat) (u : Nat) (h : u ∉ S) : woB S u = S := by
  unfold woB
  rw [List.filter_eq_self]
  intro x hx
  simp only [bne_iff_ne, ne_eq]
  exact fun e => h (e ▸ hx)
theorem woB_mem {S : List Nat} {u x : Nat} : x ∈ woB S u ↔ x ∈ S ∧ x ≠ u := by simp [woB]
theorem woB_nodup {S : List Nat} (u : Nat) (h : S.Nodup) : (woB S u).Nodup := h.filter _
theorem snoc_nodup {S : List Nat} {r : Nat} (h : S.Nodup) (hr : r ∉ S) : (S ++ [r]).Nodup := by
  rw [List.nodup_append]
  exact ⟨h, by simp, fun a ha b hb => by simp at hb; subst hb; exact fun e => hr (e ▸ ha)⟩
/-- How many keys are requested next ahead of a time. -/
def cntB (tr : List Nat) (S : List Nat) (i t : Nat) : Nat := S.countP (fun x => decide (nxB tr x i < t))
theorem cntB_wo (tr : List Nat) (S : List Nat) (u i t : Nat) (h : S.Nodup) (hu : u ∈ S) : cntB tr (woB S u) i t + (if nxB tr u i < t then 1 else 0) = cntB tr S i t := by
  unfold cntB
  induction S with
  | nil => cases hu
  | cons a l ih =>
    rw [List.nodup_cons] at h
    by_cases e : a = u
    · subst e
      have : woB (a :: l) a = l := by
        unfold woB
        rw [List.filter_cons, if_neg (by simp)]
        exact woB_no l a h.1
      rw [this, List.countP_cons]
      simp only [decide_eq_true_eq]
    · have hu2 : u ∈ l := by
        rcases List.mem_cons.1 hu with h1 | h1
        · exact absurd h1.symm e
        · exact h1
      have : woB (a :: l) u = a :: woB l u := by
        unfold woB
        rw [List.filter_cons, if_pos (by simpa using e)]
      rw [this, List.countP_cons, List.countP_cons]
      have := ih h.2 hu2
      omega
theorem cntB_snoc (tr : List Nat) (S : List Nat) (r i t : Nat) : cntB tr (S ++ [r]) i t = cntB tr S i t + (if nxB tr r i < t then 1 else 0) := by
  unfold cntB
  rw [List.countP_append, List.countP_cons, List.countP_nil]
  simp only [decide_eq_true_eq, Nat.zero_add]
theorem cntB_le (tr : List Nat) (S : List Nat) (i t : Nat) : cntB tr S i t ≤ S.length := List.countP_le_length
theorem cntB_all (tr : List Nat) (S : List Nat) (i t : Nat) (h : ∀ x ∈ S, nxB tr x i < t) : cntB tr S i t = S.length := by
  unfold cntB
  rw [List.countP_eq_length]
  intro x hx
  exact decide_eq_true (h x hx)
theorem cntB_zero (tr : List Nat) (S : List Nat) (i : Nat) : cntB tr S i i = 0 := by
  unfold cntB
  rw [List.countP_eq_zero]
  intro x _
  have := nxB_ge tr x i
  simp; omega
/-- One request on: keys that are not requested keep their next request. -/
theorem cntB_no (tr : List Nat) (S : List Nat) (r i t : Nat) (h : tr[i]? = some r) (hr : r ∉ S) : cntB tr S (i + 1) t = cntB tr S i t := by
  unfold cntB
  refine List.countP_congr (fun x hx => ?_)
  rw [nxB_step tr x r i h (fun e => hr (e ▸ hx))]
theorem woB_len (S : List Nat) (u : Nat) (h : S.Nodup) (hu : u ∈ S) : (woB S u).length + 1 = S.length := by
  have h1 := cntB_wo [] S u 0 1 h hu
  have e : ∀ x, nxB [] x 0 = 0 := fun x => rfl
  rw [cntB_all _ _ _ _ (fun x _ => by rw [e]; omega), cntB_all _ _ _ _ (fun x _ => by rw [e]; omega), e, if_pos (by omega)] at h1
  exact h1
theorem cntB_yes (tr : List Nat) (S : List Nat) (r i t : Nat) (h : tr[i]? = some r) (hn : S.Nodup) (hr : r ∈ S) (ht : i + 1 ≤ t) : cntB tr S (i + 1) t + 1 = cntB tr S i t + (if nxB tr r (i + 1) < t then 1 else 0) := by
  have h1 := cntB_wo tr S r (i + 1) t hn hr
  have h2 := cntB_wo tr S r i t hn hr
  have h3 := cntB_no tr (woB S r) r i t h (fun hm => (woB_mem.1 hm).2 rfl)
  rw [nxB_here tr r i h, if_pos (by omega)] at h2
  omega
/-- Of all keys the one whose next request is last, by a rule. -/
structure FarB (tr : List Nat) (i : Nat) (S : List Nat) (v : Nat) : Prop where
  mem : v ∈ S
  far : ∀ x ∈ S, nxB tr x i ≤ nxB tr v i
/-- What a policy keeps, and the optimal one. -/
structure InvB (tr : List Nat) (k i : Nat) (C O : List Nat) (hC hO : Nat) : Prop where
  nc : C.Nodup
  no : O.Nodup
  lc : C.length ≤ k
  lo : O.length ≤ k
  inv : ∀ t, i ≤ t → cntB tr C i t + hC ≤ cntB tr O i t + hO
theorem InvB.hits {tr : List Nat} {k i : Nat} {C O : List Nat} {hC hO : Nat} (h : InvB tr k i C O hC hO) : hC ≤ hO := by
  have := h.inv i (Nat.le_refl _)
  rw [cntB_zero, cntB_zero] at this
  omega
/-- What the optimal policy keeps behind a request. -/
def optN (k : Nat) (O : List Nat) (v r : Nat) : List Nat := if r ∈ O then O else if O.length = k then woB O v ++ [r] else O ++ [r]
/-- What a policy keeps behind a request; l: the key that leaves, if one does. -/
def polN (C : List Nat) (l : Option Nat) (r : Nat) : List Nat := woB (match l with | some u => woB C u | none => C) r ++ [r]
theorem InvB.step {tr : List Nat} {k i : Nat} {C O : List Nat} {hC hO : Nat} (h : InvB tr k i C O hC hO) (r v : Nat) (l : Option Nat) (hr : tr[i]? = some r)
    (hv : r ∉ O → O.length = k → FarB tr (i + 1) O v) (hl : ∀ u, l = some u → u ∈ C ∧ r ∉ C) (hlen : (polN C l r).length ≤ k) :
    InvB tr k (i + 1) (polN C l r) (optN k O v r) (hC + if r ∈ C then 1 else 0) (hO + if r ∈ O then 1 else 0) := by
  -- the other policy
  have hpn : (polN C l r).Nodup := by
    unfold polN
    refine snoc_nodup (woB_nodup r ?_) (fun hm => (woB_mem.1 hm).2 rfl)
    split
    · exact woB_nodup _ h.nc
    · exact h.nc
  have hpc : ∀ t, i + 1 ≤ t → r ∈ C → cntB tr (polN C l r) (i + 1) t + 1 = cntB tr C i t + (if nxB tr r (i + 1) < t then 1 else 0) := by
    intro t ht hrC
    have hln : l = none := by
      cases l with
      | none => rfl
      | some u => exact absurd hrC (hl u rfl).2
    subst hln
    show cntB tr (woB C r ++ [r]) (i + 1) t + 1 = _
    rw [cntB_snoc]
    have h1 := cntB_wo tr C r i t h.nc hrC
    have h3 := cntB_no tr (woB C r) r i t hr (fun hm => (woB_mem.1 hm).2 rfl)
    rw [nxB_here tr r i hr, if_pos (by omega)] at h1
    omega
  have hpm : ∀ t, i + 1 ≤ t → r ∉ C → cntB tr (polN C l r) (i + 1) t ≤ cntB tr C i t + (if nxB tr r (i + 1) < t then 1 else 0) ∧ cntB tr (polN C l r) (i + 1) t + 1 ≤ k + (if nxB tr r (i + 1) < t then 1 else 0) := by
    intro t ht hrC
    obtain ⟨C1, hC1⟩ : ∃ C1, C1 = (match l with | some u => woB C u | none => C) := ⟨_, rfl⟩
    have hp : polN C l r = woB C1 r ++ [r] := by unfold polN; rw [hC1]
    have hr1 : r ∉ C1 := by
      rw [hC1]
      split
      · exact fun hm => hrC (woB_mem.1 hm).1
      · exact hrC
    rw [woB_no C1 r hr1] at hp
    rw [hp] at hlen ⊢
    rw [List.length_append] at hlen
    simp at hlen
    rw [cntB_snoc, cntB_no tr C1 r i t hr hr1]
    have h1 : cntB tr C1 i t ≤ cntB tr C i t := by
      rw [hC1]
      split
      · rename_i u
        have := cntB_wo tr C u i t h.nc (hl u rfl).1
        omega
      · exact Nat.le_refl _
    have h2 := cntB_le tr C1 i t
    omega
  -- the optimal one
  by_cases hrO : r ∈ O
  · have ho : optN k O v r = O := by unfold optN; rw [if_pos hrO]
    rw [ho, if_pos hrO]
    refine ⟨hpn, h.no, hlen, h.lo, fun t ht => ?_⟩
    have h1 := cntB_yes tr O r i t hr h.no hrO ht
    have h2 := h.inv t (by omega)
    by_cases hrC : r ∈ C
    · have h3 := hpc t ht hrC
      rw [if_pos hrC]
      omega
    · have h3 := hpm t ht hrC
      rw [if_neg hrC]
      omega
  · by_cases hf : O.length = k
    · obtain ⟨hvm, hvf⟩ := hv hrO hf
      have ho : optN k O v r = woB O v ++ [r] := by unfold optN; rw [if_neg hrO, if_pos hf]
      have hrw : r ∉ woB O v := fun hm => hrO (woB_mem.1 hm).1
      have hwl := woB_len O v h.no hvm
      rw [ho, if_neg hrO]
      refine ⟨hpn, snoc_nodup (woB_nodup v h.no) hrw, hlen, by rw [List.length_append]; simp; omega, fun t ht => ?_⟩
      rw [cntB_snoc]
      have h1 := cntB_wo tr O v (i + 1) t h.no hvm
      have h0 := cntB_no tr O r i t hr hrO
      have h2 := h.inv t (by omega)
      by_cases hvt : nxB tr v (i + 1) < t
      · have hall := cntB_all tr O (i + 1) t (fun x hx => Nat.lt_of_le_of_lt (hvf x hx) hvt)
        rw [if_pos hvt] at h1
        by_cases hrC : r ∈ C
        · have h3 := hpc t ht hrC
          have h4 := cntB_le tr C i t
          have h5 := h.inv (i + 1) (by omega)
          have h6 := cntB_no tr O r i (i + 1) hr hrO
          rw [cntB_zero] at h6
          have h7 := cntB_wo tr C r i (i + 1) h.nc hrC
          rw [nxB_here tr r i hr, if_pos (by omega)] at h7
          have h8 := h.lc
          rw [if_pos hrC]
          omega
        · have h3 := hpm t ht hrC
          have h5 := h.hits
          rw [if_neg hrC]
          omega
      · rw [if_neg hvt] at h1
        by_cases hrC : r ∈ C
        · have h3 := hpc t ht hrC
          rw [if_pos hrC]
          omega
        · have h3 := hpm t ht hrC
          rw [if_neg hrC]
          omega
    · have ho : optN k O v r = O ++ [r] := by unfold optN; rw [if_neg hrO, if_neg hf]
      rw [ho, if_neg hrO]
      have := h.lo
      refine ⟨hpn, snoc_nodup h.no hrO, hlen, by rw [List.length_append]; simp; omega, fun t ht => ?_⟩
      rw [cntB_snoc]
      have h0 := cntB_no tr O r i t hr hrO
      have h2 := h.inv t (by omega)
      by_cases hrC : r ∈ C
      · have h3 := hpc t ht hrC
        rw [if_pos hrC]
        omega
      · have h3 := hpm t ht hrC
        rw [if_neg hrC]
        omega
/- the runs -/
def keyB (tr : List Nat) (i : Nat) : Nat := tr.getD i 0
theorem keyB_at (tr : List Nat) (i : Nat) (h : i < tr.length) : tr[i]? = some (keyB tr i) := by
  unfold keyB
  rw [List.getD_eq_getElem?_getD, List.getElem?_eq_getElem h]; rfl
/-- Does one key leave ahead of another one. -/
def befB (tr : List Nat) (i x b : Nat) : Prop := nxB tr b i < nxB tr x i ∨ (nxB tr x i = nxB tr b i ∧ x < b)
instance (tr : List Nat) (i x b : Nat) : Decidable (befB tr i x b) := by unfold befB; infer_instance
def vicF (tr : List Nat) (i : Nat) : List Nat → Nat → Nat
  | [], b => b
  | x :: l, b => vicF tr i l (if befB tr i x b then x else b)
/-- The key that leaves. -/
def vicB (tr : List Nat) (i : Nat) : List Nat → Nat
  | [] => 0
  | x :: l => vicF tr i l x
theorem vicF_mem (tr : List Nat) (i : Nat) : ∀ (l : List Nat) (b : Nat), vicF tr i l b = b ∨ vicF tr i l b ∈ l := by
  intro l
  induction l with
  | nil => intro b; exact Or.inl rfl
  | cons x l ih =>
    intro b
    show vicF tr i l _ = b ∨ vicF tr i l _ ∈ x :: l
    by_cases h : befB tr i x b
    · rw [if_pos h]
      rcases ih x with h1 | h1
      · exact Or.inr (by rw [h1]; simp)
      · exact Or.inr (by simp [h1])
    · rw [if_neg h]
      rcases ih b with h1 | h1
      · exact Or.inl h1
      · exact Or.inr (by simp [h1])
theorem vicF_far (tr : List Nat) (i : Nat) : ∀ (l : List Nat) (b : Nat), nxB tr b i ≤ nxB tr (vicF tr i l b) i ∧ ∀ x ∈ l, nxB tr x i ≤ nxB tr (vicF tr i l b) i := by
  intro l
  induction l with
  | nil => intro b; exact ⟨Nat.le_refl _, fun x hx => by cases hx⟩
  | cons x l ih =>
    intro b
    show nxB tr b i ≤ nxB tr (vicF tr i l _) i ∧ ∀ y ∈ x :: l, nxB tr y i ≤ nxB tr (vicF tr i l _) i
    by_cases h : befB tr i x b
    · rw [if_pos h]
      obtain ⟨h1, h2⟩ := ih x
      unfold befB at h
      refine ⟨by omega, fun y hy => ?_⟩
      rcases List.mem_cons.1 hy with rfl | hy
      · exact h1
      · exact h2 y hy
    · rw [if_neg h]
      obtain ⟨h1, h2⟩ := ih b
      unfold befB at h
      refine ⟨h1, fun y hy => ?_⟩
      rcases List.mem_cons.1 hy with rfl | hy
      · omega
      · exact h2 y hy
theorem vicB_far (tr : List Nat) (i : Nat) (O : List Nat) (h : O ≠ []) : FarB tr i O (vicB tr i O) := by
  cases O with
  | nil => exact absurd rfl h
  | cons x l =>
    refine ⟨?_, fun y hy => ?_⟩
    · show vicF tr i l x ∈ x :: l
      rcases vicF_mem tr i l x with h1 | h1
      · rw [h1]; simp
      · simp [h1]
    · obtain ⟨h1, h2⟩ := vicF_far tr i l x
      show nxB tr y i ≤ nxB tr (vicF tr i l x) i
      rcases List.mem_cons.1 hy with rfl | hy
      · exact h1
      · exact h2 y hy
/-- What the optimal policy keeps ahead of a request. -/
def optS (tr : List Nat) (k : Nat) : Nat → List Nat
  | 0 => []
  | i + 1 => optN k (optS tr k i) (vicB tr (i + 1) (optS tr k i)) (keyB tr i)
def optH (tr : List Nat) (k : Nat) : Nat → Nat
  | 0 => 0
  | i + 1 => optH tr k i + if keyB tr i ∈ optS tr k i then 1 else 0
/-- A turn of a policy. -/
structure TnB where
  hit : Bool
  left : Bool
  out : Nat
def TnB.who (x : TnB) : Option Nat := if x.left then some x.out else none
def tnB (ts : List TnB) (i : Nat) : TnB := ts.getD i ⟨false, false, 0⟩
/-- What a policy keeps ahead of a request. -/
def polS (tr : List Nat) (ts : List TnB) : Nat → List Nat
  | 0 => []
  | i + 1 => polN (polS tr ts i) (tnB ts i).who (keyB tr i)
/-- A turn is one of a policy. -/
structure OkT (tr : List Nat) (k : Nat) (ts : List TnB) (i : Nat) : Prop where
  hit : (tnB ts i).hit = true ↔ keyB tr i ∈ polS tr ts i
  one : (tnB ts i).hit = true → (tnB ts i).left = false
  zero : (tnB ts i).left = false → (tnB ts i).out = 0
  there : (tnB ts i).left = true → (tnB ts i).out ∈ polS tr ts i
  room : (polS tr ts (i + 1)).length ≤ k
def polH (ts : List TnB) : Nat → Nat
  | 0 => 0
  | i + 1 => polH ts i + if (tnB ts i).hit = true then 1 else 0
theorem pol_inv (tr : List Nat) (k : Nat) (ts : List TnB) (hk : 1 ≤ k) (n : Nat) (hn : n ≤ tr.length) (h : ∀ i, i < n → OkT tr k ts i) : InvB tr k n (polS tr ts n) (optS tr k n) (polH ts n) (optH tr k n) := by
  induction n with
  | zero => exact ⟨List.nodup_nil, List.nodup_nil, Nat.zero_le _, Nat.zero_le _, fun t _ => Nat.le_refl _⟩
  | succ n ih =>
    have hi := ih (by omega) (fun i hi => h i (by omega))
    have ho := h n (by omega)
    have hs := hi.step (keyB tr n) (vicB tr (n + 1) (optS tr k n)) (tnB ts n).who (keyB_at tr n (by omega))
      (fun _ hf => vicB_far tr (n + 1) _ (fun e => by rw [e] at hf; simp at hf; omega))
      (fun u hu => by
        unfold TnB.who at hu
        split at hu
        · rename_i hl
          cases hu
          refine ⟨ho.there hl, fun hm => ?_⟩
          rw [ho.one (ho.hit.2 hm)] at hl
          cases hl
        · cases hu)
      ho.room
    have e1 : polH ts (n + 1) = polH ts n + if keyB tr n ∈ polS tr ts n then 1 else 0 := by
      show polH ts n + _ = _
      by_cases hm : keyB tr n ∈ polS tr ts n
      · rw [if_pos hm, if_pos (ho.hit.2 hm)]
      · rw [if_neg hm, if_neg (fun hh => hm (ho.hit.1 hh))]
    rw [e1]
    exact hs
/-- No policy has more hits than the optimal one. -/
theorem opt_best (tr : List Nat) (k : Nat) (ts : List TnB) (hk : 1 ≤ k) (h : ∀ i, i < tr.length → OkT tr k ts i) : polH ts tr.length ≤ optH tr k tr.length :=
  (pol_inv tr k ts hk tr.length (Nat.le_refl _) h).hits
/-- The optimal policy's turns. -/
def optT (tr : List Nat) (k i : Nat) : TnB :=
  if keyB tr i ∈ optS tr k i then ⟨true, false, 0⟩ else if (optS tr k i).length = k then ⟨false, true, vicB tr (i + 1) (optS tr k i)⟩ else ⟨false, false, 0⟩
def optTs (tr : List Nat) (k : Nat) : List TnB := (List.range tr.length).map (optT tr k)
theorem optTs_at (tr : List Nat) (k i : Nat) (h : i < tr.length) : tnB (optTs tr k) i = optT tr k i := by
  unfold tnB optTs
  rw [List.getD_eq_getElem?_getD]
  simp [h]
/-- The same keys, in whatever order. -/
def SameB (C O : List Nat) : Prop := C.Nodup ∧ O.Nodup ∧ ∀ x, x ∈ C ↔ x ∈ O
theorem SameB.len {C O : List Nat} (h : SameB C O) : C.length = O.length := by
  have key : ∀ (C O : List Nat), C.Nodup → (∀ x, x ∈ C → x ∈ O) → C.length ≤ O.length := by
    intro C
    induction C with
    | nil => intro O _ _; exact Nat.zero_le _
    | cons a l ih =>
      intro O hn hs
      rw [List.nodup_cons] at hn
      have h1 := ih (O.erase a) hn.2 (fun x hx => by
        have hxa : x ≠ a := fun e => hn.1 (e ▸ hx)
        exact (List.mem_erase_of_ne hxa).2 (hs x (by simp [hx])))
      have h2 := List.length_erase_of_mem (hs a (by simp))
      have h3 : 0 < O.length := List.length_pos_of_mem (hs a (by simp))
      simp only [List.length_cons]; omega
  have a := key C O h.1 (fun x hx => (h.2.2 x).1 hx)
  have b := key O C h.2.1 (fun x hx => (h.2.2 x).2 hx)
  omega
/-- The optimal policy's turns are those of a policy, and they have its hits. -/
theorem opt_pol (tr : List Nat) (k : Nat) (hk : 1 ≤ k) (n : Nat) (hn : n ≤ tr.length) : SameB (polS tr (optTs tr k) n) (optS tr k n) ∧ (optS tr k n).length ≤ k ∧ polH (optTs tr k) n = optH tr k n ∧ ∀ i, i < n → OkT tr k (optTs tr k) i := by
  induction n with
  | zero => exact ⟨⟨List.nodup_nil, List.nodup_nil, fun x => Iff.rfl⟩, Nat.zero_le _, rfl, fun i hi => absurd hi (by omega)⟩
  | succ n ih =>
    obtain ⟨hs, hl, hh, hok⟩ := ih (by omega)
    obtain ⟨hc, ho, hm⟩ := hs
    have hT := optTs_at tr k n (by omega)
    have hmr := hm (keyB tr n)
    have key : SameB (polS tr (optTs tr k) (n + 1)) (optS tr k (n + 1)) ∧ (optS tr k (n + 1)).length ≤ k := by
      show SameB (polN (polS tr (optTs tr k) n) (tnB (optTs tr k) n).who (keyB tr n)) (optN k (optS tr k n) (vicB tr (n + 1) (optS tr k n)) (keyB tr n)) ∧ (optN k (optS tr k n) (vicB tr (n + 1) (optS tr k n)) (keyB tr n)).length ≤ k
      rw [hT]
      unfold optT optN polN TnB.who
      by_cases hr : keyB tr n ∈ optS tr k n
      · rw [if_pos hr, if_pos hr]
        refine ⟨⟨?_, ho, fun x => ?_⟩, hl⟩
        · simp only [Bool.false_eq_true, if_false]
          exact snoc_nodup (woB_nodup _ hc) (fun h => (woB_mem.1 h).2 rfl)
        · simp only [Bool.false_eq_true, if_false, List.mem_append, woB_mem, List.mem_singleton]
          constructor
          · rintro (⟨h1, _⟩ | rfl)
            · exact (hm x).1 h1
            · exact hr
          · intro h1
            by_cases e : x = keyB tr n
            · exact Or.inr e
            · exact Or.inl ⟨(hm x).2 h1, e⟩
      · rw [if_neg hr, if_neg hr]
        by_cases hf : (optS tr k n).length = k
        · rw [if_pos hf, if_pos hf]
          have hvm := (vicB_far tr (n + 1) (optS tr k n) (fun e => by rw [e] at hf; simp at hf; omega)).mem
          have hwl := woB_len _ _ ho hvm
          refine ⟨⟨?_, ?_, fun x => ?_⟩, by rw [List.length_append]; simp; omega⟩
          · simp only [if_true]
            exact snoc_nodup (woB_nodup _ (woB_nodup _ hc)) (fun h => (woB_mem.1 h).2 rfl)
          · exact snoc_nodup (woB_nodup _ ho) (fun h => hr (woB_mem.1 h).1)
          · simp only [if_true, List.mem_append, woB_mem, List.mem_singleton]
            constructor
            · rintro (⟨⟨h1, h2⟩, _⟩ | rfl)
              · exact Or.inl ⟨(hm x).1 h1, h2⟩
              · exact Or.inr rfl
            · rintro (⟨h1, h2⟩ | rfl)
              · exact Or.inl ⟨⟨(hm x).2 h1, h2⟩, fun e => hr (e ▸ h1)⟩
              · exact Or.inr rfl
        · rw [if_neg hf, if_neg hf]
          refine ⟨⟨?_, ?_, fun x => ?_⟩, by rw [List.length_append]; simp; omega⟩
          · simp only [Bool.false_eq_true, if_false]
            exact snoc_nodup (woB_nodup _ hc) (fun h => (woB_mem.1 h).2 rfl)
          · exact snoc_nodup ho hr
          · simp only [Bool.false_eq_true, if_false, List.mem_append, woB_mem, List.mem_singleton]
            constructor
            · rintro (⟨h1, _⟩ | rfl)
              · exact Or.inl ((hm x).1 h1)
              · exact Or.inr rfl
            · rintro (h1 | rfl)
              · exact Or.inl ⟨(hm x).2 h1, fun e => hr (e ▸ h1)⟩
              · exact Or.inr rfl
    have hhit : (tnB (optTs tr k) n).hit = true ↔ keyB tr n ∈ optS tr k n := by
      rw [hT]
      unfold optT
      by_cases hr : keyB tr n ∈ optS tr k n
      · rw [if_pos hr]; simp [hr]
      · rw [if_neg hr]
        split <;> simp [hr]
    refine ⟨key.1, key.2, ?_, fun i hi => ?_⟩
    · show polH (optTs tr k) n + _ = optH tr k n + _
      rw [hh]
      by_cases hr : keyB tr n ∈ optS tr k n
      · rw [if_pos hr, if_pos (hhit.2 hr)]
      · rw [if_neg hr, if_neg (fun h => hr (hhit.1 h))]
    · by_cases e : i = n
      · subst e
        refine ⟨hhit.trans hmr.symm, ?_, ?_, ?_, by rw [key.1.len]; exact key.2⟩
        · rw [hT]
          unfold optT
          split
          · intro _; rfl
          · split <;> simp
        · rw [hT]
          unfold optT
          split
          · intro _; rfl
          · split
            · simp
            · intro _; rfl
        · rw [hT]
          unfold optT
          split
          · simp
          · split
            · rename_i hf
              intro _
              exact (hm _).2 (vicB_far tr (i + 1) (optS tr k i) (fun e => by rw [e] at hf; simp at hf; omega)).mem
            · simp
      · exact hok i (by omega)
/-- A policy of a size is one of a greater size: hits do not become fewer. -/
theorem opt_more (tr : List Nat) (k : Nat) (hk : 1 ≤ k) : optH tr k tr.length ≤ optH tr (k + 1) tr.length := by
  obtain ⟨_, _, hh, hok⟩ := opt_pol tr k hk tr.length (Nat.le_refl _)
  rw [← hh]
  exact opt_best tr (k + 1) (optTs tr k) (by omega) (fun i hi => ⟨(hok i hi).hit, (hok i hi).one, (hok i hi).zero, (hok i hi).there, by have := (hok i hi).room; omega⟩)
end Go.Proofs.Ytbhfpofcebepiaa
