import Derived.Test.YtbhfpofcebepiaaB18
import Derived.Laws.OwnMore
/- Plain laws of what Turns keeps: the places, and the turns. -/
namespace Go.Proofs.Ytbhfpofcebepiaa
open Go.RowKit
theorem nodup_inj {O : List Nat} (hn : O.Nodup) {i j : Nat} (hi : i < O.length) (hj : j < O.length) (h : O[i] = O[j]) : i = j := by
  have hp := List.pairwise_iff_getElem.1 hn
  rcases Nat.lt_trichotomy i j with h1 | h1 | h1
  · exact absurd h (hp i j hi hj h1)
  · exact h1
  · exact absurd h.symm (hp j i hj hi h1)
/-- The places of the keys that are there. -/
def plL (L : List Nat) (i : Nat) (O : List Nat) : List (Nat × Nat) := O.map fun x => (x, nxB L x i)
theorem plL_len (L : List Nat) (i : Nat) (O : List Nat) : (plL L i O).length = O.length := by simp [plL]
theorem plL_at (L : List Nat) (i : Nat) (O : List Nat) (r : Nat) (h : r < O.length) : (plL L i O).getD r (0, 0) = (O.getD r 0, nxB L (O.getD r 0) i) := by
  rw [List.getD_eq_getElem?_getD, List.getD_eq_getElem?_getD]
  simp [plL, h]
theorem plL_miss (L : List Nat) (t : Nat) (O : List Nat) (ht : t < L.length) (hm : keyB L t ∉ O) : plL L t O = plL L (t + 1) O := by
  unfold plL
  refine List.map_congr_left fun x hx => ?_
  rw [nxB_step L x _ t (keyB_at L t ht) (fun e => hm (e ▸ hx))]
theorem plL_hit (L : List Nat) (t : Nat) (O : List Nat) (ht : t < L.length) (hn : O.Nodup) (r : Nat) (hr : r < O.length) (he : O[r] = keyB L t) : (plL L t O).set r (keyB L t, nxB L (keyB L t) (t + 1)) = plL L (t + 1) O := by
  apply List.ext_getElem?
  intro j
  rw [List.getElem?_set, plL_len]
  by_cases hj : r = j
  · subst hj
    rw [if_pos rfl, if_pos hr]
    simp [plL, hr, he]
  · rw [if_neg hj]
    unfold plL
    rw [List.getElem?_map, List.getElem?_map]
    cases ho : O[j]? with
    | none => rfl
    | some x =>
      have hx : keyB L t ≠ x := by
        intro e
        obtain ⟨hj2, hx2⟩ := List.getElem?_eq_some_iff.1 ho
        have := nodup_inj hn hr hj2 (by rw [he, hx2, e])
        exact hj this
      show some (x, nxB L x t) = some (x, nxB L x (t + 1))
      rw [nxB_step L x _ t (keyB_at L t ht) hx]
theorem optN_ok {k : Nat} {O : List Nat} {v r : Nat} (hn : O.Nodup) (hl : O.length ≤ k) (hk : 1 ≤ k) (hv : O.length = k → v ∈ O) : (optN k O v r).Nodup ∧ (optN k O v r).length ≤ k := by
  unfold optN
  split
  · exact ⟨hn, hl⟩
  · rename_i hr
    split
    · rename_i hf
      refine ⟨snoc_nodup (woB_nodup _ hn) (fun h => hr (woB_mem.1 h).1), ?_⟩
      have := woB_len O v hn (hv hf)
      rw [List.length_append]
      simp; omega
    · refine ⟨snoc_nodup hn hr, ?_⟩
      rw [List.length_append]
      simp; omega
theorem optS_ok (L : List Nat) (k : Nat) (hk : 1 ≤ k) : ∀ i, (optS L k i).Nodup ∧ (optS L k i).length ≤ k
  | 0 => ⟨List.nodup_nil, Nat.zero_le _⟩
  | i + 1 => by
    obtain ⟨h1, h2⟩ := optS_ok L k hk i
    exact optN_ok h1 h2 hk (fun hf => (vicB_far L (i + 1) _ (fun e => by rw [e] at hf; simp at hf; omega)).mem)
theorem lat_bef (L : List Nat) (i x b : Nat) : latB x (nxB L x i) b (nxB L b i) < 0 ↔ befB L i x b := by
  rw [lat_neg]
  rfl
theorem minI_vic (L : List Nat) (i : Nat) (O : List Nat) : ∀ t, t < O.length → minI (plL L i O) t = (vicF L i ((O.drop 1).take t) (O.getD 0 0), nxB L (vicF L i ((O.drop 1).take t) (O.getD 0 0)) i)
  | 0, h => by
    show (plL L i O).getD 0 (0, 0) = _
    rw [plL_at L i O 0 h]
    rfl
  | t + 1, h => by
    have ih := minI_vic L i O t (by omega)
    have hlast : (O.drop 1).take (t + 1) = (O.drop 1).take t ++ [O.getD (t + 1) 0] := by
      rw [List.take_add_one, List.getElem?_drop, List.getElem?_eq_getElem (by omega)]
      rw [List.getD_eq_getElem?_getD, List.getElem?_eq_getElem h]
      simp only [Nat.add_comm 1 t]
      rfl
    have hfold : ∀ (l : List Nat) (x b : Nat), vicF L i (l ++ [x]) b = if befB L i x (vicF L i l b) then x else vicF L i l b := by
      intro l
      induction l with
      | nil => intro x b; rfl
      | cons y l ihl => intro x b; exact ihl x _
    rw [hlast, hfold]
    show (if latB _ _ _ _ < 0 then _ else _) = _
    rw [ih, plL_at L i O (t + 1) h]
    by_cases hb : befB L i (O.getD (t + 1) 0) (vicF L i ((O.drop 1).take t) (O.getD 0 0))
    · rw [if_pos hb, if_pos ((lat_bef L i _ _).2 hb)]
    · rw [if_neg hb, if_neg (fun h => hb ((lat_bef L i _ _).1 h))]
theorem minI_all (L : List Nat) (i : Nat) (O : List Nat) (h : 0 < O.length) : minI (plL L i O) ((plL L i O).length - 1) = (vicB L i O, nxB L (vicB L i O) i) := by
  rw [plL_len, minI_vic L i O _ (by omega)]
  cases O with
  | nil => simp at h
  | cons x l =>
    have : ((x :: l).drop 1).take ((x :: l).length - 1) = l := by simp
    rw [this]
    rfl
theorem woB_split {O : List Nat} (hn : O.Nodup) {r : Nat} (hr : r < O.length) : O.take r ++ O.drop (r + 1) = woB O O[r] := by
  induction O generalizing r with
  | nil => simp at hr
  | cons a l ih =>
    rw [List.nodup_cons] at hn
    cases r with
    | zero =>
      show l = woB (a :: l) a
      unfold woB
      rw [List.filter_cons, if_neg (by simp)]
      exact (woB_no l a hn.1).symm
    | succ r =>
      have hr2 : r < l.length := by simpa using hr
      have hne : a ≠ l[r] := fun e => hn.1 (e ▸ List.getElem_mem hr2)
      show a :: (l.take r ++ l.drop (r + 1)) = woB (a :: l) l[r]
      rw [ih hn.2 hr2]
      unfold woB
      rw [List.filter_cons, if_pos (by simpa using hne)]
theorem plL_cut (L : List Nat) (i : Nat) {O : List Nat} (hn : O.Nodup) {r : Nat} (hr : r < O.length) : (plL L i O).take r ++ (plL L i O).drop (r + 1) = plL L i (woB O O[r]) := by
  rw [← woB_split hn hr]
  simp [plL]
theorem mem_at {O : List Nat} {x : Nat} (h : x ∈ O) (hn : O.Nodup) : ∃ r, ∃ hr : r < O.length, O[r] = x ∧ ∀ j (hj : j < O.length), j ≠ r → O[j] ≠ x := by
  obtain ⟨r, hr, e⟩ := List.getElem_of_mem h
  exact ⟨r, hr, e, fun j hj hne he => hne (nodup_inj hn hj hr (by rw [he, e]))⟩
/-- The turns that are written already. -/
def tnL (L : List Nat) (k t : Nat) : List TnB := (List.range L.length).map fun j => if j < t then optT L k j else ⟨false, false, 0⟩
theorem tnL_len (L : List Nat) (k t : Nat) : (tnL L k t).length = L.length := by simp [tnL]
theorem tnL_all (L : List Nat) (k : Nat) : tnL L k L.length = optTs L k := by
  unfold tnL optTs
  refine List.map_congr_left fun j hj => ?_
  rw [if_pos (by simpa using hj)]
theorem tnL_step (L : List Nat) (k t : Nat) (ht : t < L.length) : (tnL L k t).set t (optT L k t) = tnL L k (t + 1) := by
  apply List.ext_getElem?
  intro j
  rw [List.getElem?_set, tnL_len]
  by_cases hj : t = j
  · subst hj
    rw [if_pos rfl, if_pos ht]
    simp [tnL, ht]
  · rw [if_neg hj]
    unfold tnL
    rw [List.getElem?_map, List.getElem?_map]
    by_cases hjl : j < L.length
    · rw [List.getElem?_range hjl]
      show some (if j < t then _ else _) = some (if j < t + 1 then _ else _)
      by_cases h1 : j < t
      · rw [if_pos h1, if_pos (by omega)]
      · rw [if_neg h1, if_neg (by omega)]
    · rw [List.getElem?_eq_none (by simp; omega)]; rfl
theorem tnL_at (L : List Nat) (k t : Nat) (ht : t < L.length) : (tnL L k t)[t]? = some ⟨false, false, 0⟩ := by simp [tnL, ht]
theorem tnL_zero (L : List Nat) (k : Nat) : rows TnB.cs (tnL L k 0) = rows TnB.cs (List.replicate L.length ⟨false, false, 0⟩) := by
  congr 1
  apply List.ext_getElem?
  intro j
  by_cases hj : j < L.length
  · simp [tnL, hj]
  · rw [List.getElem?_eq_none (by rw [tnL_len]; omega), List.getElem?_eq_none (by simp; omega)]
theorem tn_set3 : ∀ (M : List TnB) (t : Nat) (x : TnB), t < M.length → rows TnB.cs (M.set t x) = (((rows TnB.cs M).set (t * 3) (.bool x.hit)).set (t * 3 + 1) (.bool x.left)).set (t * 3 + 2) (.int .u32 (x.out : Nat))
  | [], t, x, h => by simp at h
  | m :: M, 0, x, _ => rfl
  | m :: M, t + 1, x, h => by
    have ih := tn_set3 M t x (by simpa using h)
    rw [show (t + 1) * 3 = t * 3 + 1 + 1 + 1 by omega]
    show _ :: _ :: _ :: rows TnB.cs (M.set t x) = _
    rw [ih]; rfl
theorem tn_set1 : ∀ (M : List TnB) (t : Nat) (x : TnB) (b : Bool), M[t]? = some x → rows TnB.cs (M.set t ⟨b, x.left, x.out⟩) = (rows TnB.cs M).set (t * 3) (.bool b)
  | [], t, x, b, h => by simp at h
  | m :: M, 0, x, b, h => by
    simp at h
    subst h
    rfl
  | m :: M, t + 1, x, b, h => by
    have ih := tn_set1 M t x b (by simpa using h)
    rw [show (t + 1) * 3 = t * 3 + 1 + 1 + 1 by omega]
    show _ :: _ :: _ :: rows TnB.cs (M.set t _) = _
    rw [ih]; rfl
theorem pl_set1 : ∀ (P : List (Nat × Nat)) (r x y z : Nat), P[r]? = some (x, y) → rows plC (P.set r (x, z)) = (rows plC P).set (r * 2 + 1) (.int .i64 (z : Nat))
  | [], r, x, y, z, h => by simp at h
  | m :: M, 0, x, y, z, h => by
    simp at h
    subst h
    rfl
  | m :: M, r + 1, x, y, z, h => by
    have ih := pl_set1 M r x y z (by simpa using h)
    rw [show (r + 1) * 2 + 1 = (r * 2 + 1) + 1 + 1 by omega]
    show _ :: _ :: rows plC (M.set r _) = _
    rw [ih]; rfl
theorem optT_hit (L : List Nat) (k t : Nat) (h : keyB L t ∈ optS L k t) : optT L k t = ⟨true, false, 0⟩ ∧ optS L k (t + 1) = optS L k t := by
  constructor
  · unfold optT; rw [if_pos h]
  · show optN k (optS L k t) _ _ = _
    unfold optN; rw [if_pos h]
theorem optT_room (L : List Nat) (k t : Nat) (h : keyB L t ∉ optS L k t) (hl : (optS L k t).length ≠ k) : optT L k t = ⟨false, false, 0⟩ ∧ optS L k (t + 1) = optS L k t ++ [keyB L t] := by
  constructor
  · unfold optT; rw [if_neg h, if_neg hl]
  · show optN k (optS L k t) _ _ = _
    unfold optN; rw [if_neg h, if_neg hl]
theorem optT_full (L : List Nat) (k t : Nat) (h : keyB L t ∉ optS L k t) (hl : (optS L k t).length = k) : optT L k t = ⟨false, true, vicB L (t + 1) (optS L k t)⟩ ∧ optS L k (t + 1) = woB (optS L k t) (vicB L (t + 1) (optS L k t)) ++ [keyB L t] := by
  constructor
  · unfold optT; rw [if_neg h, if_pos hl]
  · show optN k (optS L k t) _ _ = _
    unfold optN; rw [if_neg h, if_pos hl]
theorem ownsRow_far {W : World} {base size n : Nat} {e : TypeId} {v : Value} {xs : List Value} (h : W.ownsRow base e size v n xs) {b o : Nat} (hb : b < base) (u : Value) : (W.setCell ⟨b, o, none⟩ u).ownsRow base e size v n xs := by
  refine ⟨h.1, ?_⟩
  rcases h.2 with ⟨rfl, h0⟩ | ⟨g, cap, cur, rfl, hbg, hgb, rest⟩
  · exact Or.inl ⟨rfl, h0⟩
  · exact Or.inr ⟨g, cap, cur, rfl, hbg, (heap_setCell_other W ⟨b, o, none⟩ g u (by show g ≠ b; omega)).trans hgb, rest⟩
end Go.Proofs.Ytbhfpofcebepiaa
