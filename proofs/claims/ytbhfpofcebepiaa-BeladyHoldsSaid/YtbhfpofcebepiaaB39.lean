import Derived.Test.YtbhfpofcebepiaaB35
/- The plain laws and the appends of BeladyHolds. -/
namespace Go.Proofs.Ytbhfpofcebepiaa
open Go.RowKit
/-- Which place leaves. -/
def kkH (N : List Nat) (k i : Nat) : Nat := if i < N.length then N.getD i 0 % k else 0
/-- Which key leaves. -/
def vfH (N : List Nat) (k i : Nat) (K : List Nat) : Nat := K.getD (kkH N k i) 0
theorem kkH_lt (N : List Nat) (k i : Nat) (hk : 1 ≤ k) : kkH N k i < k := by
  unfold kkH
  split
  · exact Nat.mod_lt _ hk
  · exact hk
theorem vfH_at (N : List Nat) (k i : Nat) (K : List Nat) (h : kkH N k i < K.length) : vfH N k i K = K[kkH N k i] := by
  unfold vfH
  rw [List.getD_eq_getElem?_getD, List.getElem?_eq_getElem h]; rfl
theorem vfH_mem (N : List Nat) (k : Nat) (hk : 1 ≤ k) : ∀ i K, K.length = k → vfH N k i K ∈ K := fun i K h => by
  have hl : kkH N k i < K.length := by rw [h]; exact kkH_lt N k i hk
  rw [vfH_at N k i K hl]
  exact List.getElem_mem hl
theorem lazTs_len (L : List Nat) (k : Nat) (vf : Nat → List Nat → Nat) : (lazTs L k vf).length = L.length := by simp [lazTs]
theorem lazTs_take (L : List Nat) (k : Nat) (vf : Nat → List Nat → Nat) (t : Nat) (h : t < L.length) : (lazTs L k vf).take (t + 1) = (lazTs L k vf).take t ++ [lazT L k vf t] := by
  have hl : t < (lazTs L k vf).length := by rw [lazTs_len]; exact h
  rw [List.take_succ_eq_append_getElem hl]
  congr 1
  simp [lazTs]
theorem lazT_hit (L : List Nat) (k : Nat) (vf : Nat → List Nat → Nat) (t : Nat) (h : keyB L t ∈ lazS L k vf t) : lazT L k vf t = ⟨true, false, 0⟩ ∧ lazS L k vf (t + 1) = lazS L k vf t := by
  constructor
  · unfold lazT; rw [if_pos h]
  · show optN k (lazS L k vf t) _ _ = _
    unfold optN; rw [if_pos h]
theorem lazT_room (L : List Nat) (k : Nat) (vf : Nat → List Nat → Nat) (t : Nat) (h : keyB L t ∉ lazS L k vf t) (hl : (lazS L k vf t).length ≠ k) : lazT L k vf t = ⟨false, false, 0⟩ ∧ lazS L k vf (t + 1) = lazS L k vf t ++ [keyB L t] := by
  constructor
  · unfold lazT; rw [if_neg h, if_neg hl]
  · show optN k (lazS L k vf t) _ _ = _
    unfold optN; rw [if_neg h, if_neg hl]
theorem lazT_full (L : List Nat) (k : Nat) (vf : Nat → List Nat → Nat) (t : Nat) (h : keyB L t ∉ lazS L k vf t) (hl : (lazS L k vf t).length = k) : lazT L k vf t = ⟨false, true, vf t (lazS L k vf t)⟩ ∧ lazS L k vf (t + 1) = woB (lazS L k vf t) (vf t (lazS L k vf t)) ++ [keyB L t] := by
  constructor
  · unfold lazT; rw [if_neg h, if_pos hl]
  · show optN k (lazS L k vf t) _ _ = _
    unfold optN; rw [if_neg h, if_pos hl]
theorem good_laz (L N : List Nat) (k : Nat) (hk : 1 ≤ k) : ∀ i, i < L.length → goodB L k (lazTs L k (vfH N k)) i = true := fun i hi =>
  (good_ok L k _ i).2 ((laz_pol L k _ (vfH_mem N k hk) L.length (Nat.le_refl _)).2.2 i hi)
/-- Numbers that come in. -/
def u8N (N : List Nat) : List Value := N.map fun x => .int .u8 (x : Nat)
theorem numbers_arg {W : World} {v : Value} (h : IntsArg .u8 W v) : ∃ (a : Option Addr) (c : Nat) (N : List Nat), v = .slice a N.length c ∧ CellsAt W a (u8N N) ∧ ∀ x ∈ N, x ≤ 255 := by
  obtain ⟨a, n, c, zs, rfl, hz, hnc, hc, hwf, hcell⟩ := h
  refine ⟨a, c, zs.map Int.toNat, by rw [List.length_map, hz], ?_, fun x hx => ?_⟩
  · have : u8N (zs.map Int.toNat) = zs.map (Value.int .u8) := by
      unfold u8N
      rw [List.map_map]
      refine List.map_congr_left fun z hm => ?_
      have := hwf z hm
      have h0 : 0 ≤ z := by
        simp [Lit.wf, IntKind.min, IntKind.signed] at this
        exact this.1
      simp [Int.toNat_of_nonneg h0]
    rw [this]
    exact hcell
  · rw [List.mem_map] at hx
    obtain ⟨z, hm, rfl⟩ := hx
    have := hwf z hm
    simp [Lit.wf, IntKind.min, IntKind.max, IntKind.signed, IntKind.bits] at this
    omega
theorem u8N_at {N : List Nat} {t : Nat} (h : t < N.length) : (u8N N)[t]? = some (.int .u8 (N.getD t 0 : Nat)) := by
  simp [u8N, List.getD_eq_getElem?_getD, h]
/-- A store into another block. -/
theorem own_set {W : World} {base size n : Nat} {e : TypeId} {v : Value} {xs : List Value} (h : W.ownsRow base e size v n xs) {X o : Nat} (hX : v.ownBlock ≠ some X) (u : Value) : (W.setCell ⟨X, o, none⟩ u).ownsRow base e size v n xs := by
  refine ⟨h.1, ?_⟩
  rcases h.2 with ⟨rfl, h0⟩ | ⟨g, cap, cur, rfl, hbg, hgb, rest⟩
  · exact Or.inl ⟨rfl, h0⟩
  · refine Or.inr ⟨g, cap, cur, rfl, hbg, (heap_setCell_other W ⟨X, o, none⟩ g u (fun e9 => hX ?_)).trans hgb, rest⟩
    show some g = some X
    exact congrArg some e9
theorem RtR.set {w : World} {M : List TnB} {m : Nat} {O : List Nat} {a5 a6 : Option Addr} {c5 c6 : Nat} {W : World} (h : RtR w M m O a5 c5 a6 c6 W) {X o : Nat} (hX : w.heap.size ≤ X) (h5 : (Value.slice a5 m c5).ownBlock ≠ some X) (h6 : (Value.slice a6 O.length c6).ownBlock ≠ some X) (u : Value) : RtR w M m O a5 c5 a6 c6 (W.setCell ⟨X, o, none⟩ u) :=
  ⟨Below.setCell h.ext (p := ⟨X, o, none⟩) hX _, h.len, own_set h.out h5 u, own_set h.keys h6 u⟩
/-- The keys without the one at a place: two appends. -/
theorem cut_app (W : World) (g c j : Nat) (O : List Nat) (hj : j < O.length) (hO : O.length ≤ 1000) (hn : O.Nodup) (hC : CellsAt W (some ⟨g, 0, none⟩) (u32L O)) (c3 : Nat) (A : Addr) (hA : (if c = j + 1 then some (⟨g, 0, none⟩ : Addr) else some ⟨g, j + 1, none⟩) = some A) (hc : O.length ≤ c) :
    ∃ a1 c1 W1, (Builtin.append_ #[22, 22] 22 #[.slice none 0 0, .slice (some ⟨g, 0, none⟩) j c]).run Try.prog W = .ok (.slice a1 j c1) W1 ∧ Ext W W1 ∧
      ∃ a2 c2 W2, (Builtin.append_ #[22, 22] 22 #[.slice a1 j c1, .slice (some A) (O.length - (j + 1)) c3]).run Try.prog W1 = .ok (.slice a2 (O.length - 1) c2) W2 ∧ Ext W W2 ∧ W2.ownsRow W.heap.size 45 1 (.slice a2 (woB O O[j]).length c2) (woB O O[j]).length (u32L (woB O O[j])) ∧ (woB O O[j]).length = O.length - 1 := by
  obtain ⟨i0, hi, hz0, hz1, hz2⟩ := info_parts infoU32
  have hone : ∀ (P : List Nat), ∀ u ∈ u32L P, u.oneCell' = true := fun P u hu => by
    simp [u32L] at hu; obtain ⟨y, _, rfl⟩ := hu; rfl
  obtain ⟨v1, W1, p1, p2, p3, p4⟩ := app_run (P := Try.prog) W W.heap.size 22 22 45 i0 (.int .u32 0) 1 4 Try.underlying22 hi hz0 hz1 hz2 rfl (by decide) (.slice none 0 0) 0 [] (World.ownsRow_nil _ _ _ _) (some ⟨g, 0, none⟩) j c (u32L (O.take j)) (fun h => by cases h) (by rw [u32L_len, List.length_take]; omega)
    (fun x hx i u hiu => by
      cases hx
      have hil := (List.getElem?_eq_some_iff.1 hiu).1
      rw [u32L_len, List.length_take] at hil
      obtain ⟨b, o, hb, hcc⟩ := hC i u (by
        have e : (u32L (O.take j)) = (u32L O).take j := by simp [u32L]
        rw [e, List.getElem?_take, if_pos (by omega)] at hiu
        exact hiu)
      cases hb
      rw [Addr.add_lit]
      exact hcc) (hone _) (by unfold maxLen; omega) (by omega) (Nat.le_refl _)
  rw [Nat.zero_add, List.nil_append] at p2
  have hx1 : Ext W W1 := Below.grown (Below.refl _ _) p3 (Nat.le_refl _) (fun k hk => by cases hk)
  obtain ⟨a1, c1, rfl⟩ := slice_form p2
  have hl2 : (u32L (O.drop (j + 1))).length = O.length - (j + 1) := by rw [u32L_len, List.length_drop]
  obtain ⟨v2, W2, q1, q2, q3, q4⟩ := app_run (P := Try.prog) W1 W.heap.size 22 22 45 i0 (.int .u32 0) 1 4 Try.underlying22 hi hz0 hz1 hz2 rfl (by decide) (.slice a1 j c1) j (u32L (O.take j)) p2 (some A) (O.length - (j + 1)) c3 (u32L (O.drop (j + 1))) (fun h => by cases h) (by rw [hl2]; omega)
    (fun x hx i u hiu => by
      cases hx
      have hil := (List.getElem?_eq_some_iff.1 hiu).1
      rw [hl2] at hil
      rw [if_neg (by omega)] at hA
      cases hA
      obtain ⟨b, o, hb, hcc⟩ := CellsAt.keep hx1 hC (j + 1 + i) u (by
        have e : (u32L (O.drop (j + 1))) = (u32L O).drop (j + 1) := by simp [u32L]
        rw [e, List.getElem?_drop] at hiu
        exact hiu)
      cases hb
      rw [Addr.add_lit]
      rw [Nat.zero_add] at hcc
      exact hcc) (hone _) (by unfold maxLen; omega) (by omega) hx1.size
  have hnum : j + (O.length - (j + 1)) = O.length - 1 := by omega
  have hsp := woB_split hn hj
  have hlen : (woB O O[j]).length = O.length - 1 := by
    rw [← hsp, List.length_append, List.length_take, List.length_drop]; omega
  have hcat : u32L (O.take j) ++ u32L (O.drop (j + 1)) = u32L (woB O O[j]) := by
    rw [← hsp]; simp [u32L]
  rw [hnum, hcat] at q2
  obtain ⟨a2, c2, rfl⟩ := slice_form q2
  refine ⟨a1, c1, W1, p1, hx1, a2, c2, W2, q1, ?_, ?_, hlen⟩
  · exact Below.trans hx1 (Below.grown (Below.refl _ _) q3 hx1.size (fun k hk => (p2.lt k hk).1))
  · rw [hlen]; exact q2
end Go.Proofs.Ytbhfpofcebepiaa
