import Derived.Test.YtnblbneehogadaaH3
/- Plain laws of a ring that grows. -/
namespace Go.Proofs.Ytnblbneehogadaa
open Go.RowKit
theorem ringW_rot {α : Type} (R : List α) (d : α) (f : Nat) (hf : f < R.length) : ringW R d f R.length = R.drop f ++ R.take f := by
  apply List.ext_getElem?
  intro j
  unfold ringW
  rw [List.getElem?_map]
  by_cases hj : j < R.length
  · rw [List.getElem?_range hj, Option.map_some]
    by_cases h1 : f + j < R.length
    · rw [Nat.mod_eq_of_lt h1, List.getElem?_append_left (by rw [List.length_drop]; omega), List.getElem?_drop, List.getD_eq_getElem?_getD, List.getElem?_eq_getElem h1]
      rfl
    · have h2 : (f + j) % R.length = f + j - R.length := by rw [Nat.mod_eq_sub_mod (by omega), Nat.mod_eq_of_lt (by omega)]
      have h3 : f + j - R.length < R.length := by omega
      rw [h2, List.getElem?_append_right (by rw [List.length_drop]; omega), List.length_drop, List.getElem?_take, if_pos (by omega), show j - (R.length - f) = f + j - R.length by omega, List.getD_eq_getElem?_getD, List.getElem?_eq_getElem h3]
      rfl
  · rw [List.getElem?_eq_none (by simp; omega), List.getElem?_eq_none (by rw [List.length_append, List.length_drop, List.length_take]; omega)]
    rfl
/-- The bigger ring after t elements. -/
def bigR (R : List EvX) (f m n t : Nat) : List EvX := (ringW R zX f m).take t ++ List.replicate (n - t) zX
theorem bigR_len (R : List EvX) (f m n t : Nat) (ht : t ≤ m) (hm : m ≤ n) : (bigR R f m n t).length = n := by
  unfold bigR
  rw [List.length_append, List.length_take, ringW_len, List.length_replicate]
  omega
theorem bigR_set (R : List EvX) (f m n t : Nat) (ht : t < m) (hm : m ≤ n) : (bigR R f m n t).set t (R.getD ((f + t) % R.length) zX) = bigR R f m n (t + 1) := by
  have hw : (ringW R zX f m)[t]'(by rw [ringW_len]; exact ht) = R.getD ((f + t) % R.length) zX := by
    unfold ringW
    simp
  unfold bigR
  have hl : ((ringW R zX f m).take t).length = t := by rw [List.length_take, ringW_len]; omega
  rw [List.take_succ_eq_append_getElem (by rw [ringW_len]; exact ht), hw, List.append_assoc, List.set_append_right _ _ (by omega), hl, Nat.sub_self]
  obtain ⟨k, hk⟩ : ∃ k, n - t = k + 1 := ⟨n - t - 1, by omega⟩
  rw [hk, show n - (t + 1) = k by omega, List.replicate_succ]
  rfl
theorem bigR_getD (R : List EvX) (f m n i : Nat) (hi : i < m) : (bigR R f m n m).getD i zX = R.getD ((f + i) % R.length) zX := by
  unfold bigR
  rw [List.take_of_length_le (by rw [ringW_len]; omega), List.getD_eq_getElem?_getD, List.getElem?_append_left (by rw [ringW_len]; exact hi)]
  unfold ringW
  rw [List.getElem?_map, List.getElem?_range hi]
  rfl
theorem bigR_mem (R : List EvX) (f m n t : Nat) (hm : m ≤ R.length) : ∀ s ∈ bigR R f m n t, s ∈ R ∨ s = zX := by
  intro s hs
  unfold bigR at hs
  rcases List.mem_append.1 hs with hs | hs
  · have h1 := List.mem_of_mem_take hs
    rcases Nat.eq_zero_or_pos R.length with h0 | h0
    · obtain rfl : m = 0 := by omega
      rw [ringW_zero] at h1
      cases h1
    · exact Or.inl (ringW_mem R zX f m h0 s h1)
  · exact Or.inr (List.eq_of_mem_replicate hs)
theorem vbs_zero (k : Nat) : vbs (List.replicate k zX) = [] := by
  unfold vbs
  rw [List.filterMap_eq_nil_iff]
  intro a ha
  rw [List.eq_of_mem_replicate ha]
  rfl
theorem bigR_vbs (R : List EvX) (f n : Nat) (hf : f < R.length ∨ (R = [] ∧ f = 0)) (hn : (vbs R).Nodup) : (vbs (bigR R f R.length n R.length)).Nodup ∧ ∀ b ∈ vbs (bigR R f R.length n R.length), b ∈ vbs R := by
  unfold bigR
  rw [List.take_of_length_le (by rw [ringW_len]; omega), vbs_app, vbs_zero, List.append_nil]
  rcases hf with hf | ⟨rfl, rfl⟩
  · have e1 : vbs R = vbs (R.take f) ++ vbs (R.drop f) := by rw [← vbs_app, List.take_append_drop]
    rw [ringW_rot R zX f hf, vbs_app]
    have hp : (vbs (R.drop f) ++ vbs (R.take f)).Perm (vbs R) := by rw [e1]; exact List.perm_append_comm
    exact ⟨hp.nodup_iff.2 hn, fun b hb => hp.subset hb⟩
  · exact ⟨List.nodup_nil, fun b hb => by cases hb⟩
theorem ownsRow_low {w : World} {base base' : Nat} {e : TypeId} {size : Nat} {v : Value} {n : Nat} {xs : List Value} (h : w.ownsRow base e size v n xs) (hb : base' ≤ base) : w.ownsRow base' e size v n xs := by
  refine ⟨h.1, ?_⟩
  rcases h.2 with h2 | ⟨g, cap, cur, rfl, hb1, r⟩
  · exact Or.inl h2
  · exact Or.inr ⟨g, cap, cur, rfl, Nat.le_trans hb hb1, r⟩
theorem keepd {W1 : World} {B o : Nat} {v : Value} (h : W1.cell? ⟨B, o, none⟩ = some v) : W1.drew.cell? ⟨B, o, none⟩ = some v := h
theorem grow_fin {base : Nat} {w wr : World} {x : WtX} {G n2 : Nat} (H : WOk base w x) (hme : x.m = x.R.length) (hn3 : x.R.length < n2) (hn4 : n2 ≤ x.room) (hE : Ext w wr)
    (hB : wr.ownsRow G 30 6 (.slice (some ⟨G, 0, none⟩) n2 n2) n2 (xs (bigR x.R x.f x.m n2 x.m))) (hG : G = w.heap.size) (hb : base ≤ w.heap.size)
    (hs : ((wr.setCell ⟨x.B, 4, none⟩ (.slice (some ⟨G, 0, none⟩) n2 n2)).setCell ⟨x.B, 5, none⟩ (.int .i64 0)).heap[x.B]? = some (.cells #[.string x.pre, x.kv, .int .i64 (x.room : Nat), .bool x.old, .slice (some ⟨G, 0, none⟩) n2 n2, .int .i64 (0 : Nat), .int .i64 (x.m : Nat), .int .i64 (x.lost : Nat)] 76 (0, 0))) :
    ({ x with rv := .slice (some ⟨G, 0, none⟩) n2 n2, R := bigR x.R x.f x.m n2 x.m, f := 0 } : WtX).m < ({ x with rv := .slice (some ⟨G, 0, none⟩) n2 n2, R := bigR x.R x.f x.m n2 x.m, f := 0 } : WtX).R.length ∧ ({ x with rv := .slice (some ⟨G, 0, none⟩) n2 n2, R := bigR x.R x.f x.m n2 x.m, f := 0 } : WtX).wait = x.wait ∧
    WOk base ((wr.setCell ⟨x.B, 4, none⟩ (.slice (some ⟨G, 0, none⟩) n2 n2)).setCell ⟨x.B, 5, none⟩ (.int .i64 0)) { x with rv := .slice (some ⟨G, 0, none⟩) n2 n2, R := bigR x.R x.f x.m n2 x.m, f := 0 } ∧ Mut (fun j => j ∈ x.fp) w ((wr.setCell ⟨x.B, 4, none⟩ (.slice (some ⟨G, 0, none⟩) n2 n2)).setCell ⟨x.B, 5, none⟩ (.int .i64 0)) ∧
    ∀ b ∈ ({ x with rv := .slice (some ⟨G, 0, none⟩) n2 n2, R := bigR x.R x.f x.m n2 x.m, f := 0 } : WtX).fp, b ∈ x.fp ∨ w.heap.size ≤ b := by
  have hbl := bigR_len x.R x.f x.m n2 x.m (Nat.le_refl _) (by omega)
  have hBfp : x.B ∈ x.fp := fp_mem.2 (Or.inl rfl)
  have hM2 : Mut (fun j => j = x.B) wr ((wr.setCell ⟨x.B, 4, none⟩ (.slice (some ⟨G, 0, none⟩) n2 n2)).setCell ⟨x.B, 5, none⟩ (.int .i64 0)) := (Mut.put (X := fun j => j = x.B) wr ⟨x.B, 4, none⟩ _ rfl).trans (Mut.put (X := fun j => j = x.B) _ ⟨x.B, 5, none⟩ _ rfl)
  have hM : Mut (fun j => j ∈ x.fp) w ((wr.setCell ⟨x.B, 4, none⟩ (.slice (some ⟨G, 0, none⟩) n2 n2)).setCell ⟨x.B, 5, none⟩ (.int .i64 0)) := Mut.extL hE (hM2.mono (fun j e => by rw [e]; exact hBfp))
  generalize (wr.setCell ⟨x.B, 4, none⟩ (.slice (some ⟨G, 0, none⟩) n2 n2)).setCell ⟨x.B, 5, none⟩ (.int .i64 0) = wf at *
  have hnd := H.nd
  unfold WtX.fp at hnd
  rw [List.nodup_cons, List.nodup_append] at hnd
  obtain ⟨n1, _, n3, _⟩ := hnd
  obtain ⟨v1, v2⟩ := bigR_vbs x.R x.f n2 H.fl n3
  rw [← hme] at v1 v2
  have hBw := (H.types hBfp).2.1
  have hk : Keep tH w wf := Keep.of_mut hM fun j hj => (H.types hj).2.2
  have hvb : ∀ s ∈ x.R, OwnB base wf s.u s.l := fun s hs => ownsRow_of (H.own s hs).2 (fun b hb => by
    have hin : b ∈ vbs x.R := vbs_mem.2 ⟨s, hs, hb⟩
    have hl := (H.types (fp_mem.2 (Or.inr (Or.inr ⟨s, hs, hb⟩)))).2.1
    have hne : b ≠ x.B := fun e => n1 (by rw [← e]; exact List.mem_append_right _ hin)
    exact (hM2.other b (Nat.lt_of_lt_of_le hl hE.size) hne).trans (hE.block b hl))
  have hfpn : ({ x with rv := .slice (some ⟨G, 0, none⟩) n2 n2, R := bigR x.R x.f x.m n2 x.m, f := 0 } : WtX).fp = x.B :: G :: vbs (bigR x.R x.f x.m n2 x.m) := rfl
  refine ⟨?_, ?_, ⟨hs, H.low, ?_, fun s hs => ?_, ownsRow_of H.kin (H.keep hk), H.kle, H.room1, H.room2, ?_, ?_, Or.inl ?_, ?_⟩, hM, fun b hb => ?_⟩
  · show x.m < (bigR x.R x.f x.m n2 x.m).length
    rw [hbl]; omega
  · show List.map EvX.core (ringW (bigR x.R x.f x.m n2 x.m) zX 0 x.m) = List.map EvX.core (ringW x.R zX x.f x.m)
    rw [ringW_grow x.R (bigR x.R x.f x.m n2 x.m) zX x.f x.m (by rw [hbl]; omega) (fun i hi => bigR_getD x.R x.f x.m n2 i hi)]
  · show wf.ownsRow base 30 6 (.slice (some ⟨G, 0, none⟩) n2 n2) (bigR x.R x.f x.m n2 x.m).length (xs (bigR x.R x.f x.m n2 x.m))
    rw [hbl]
    refine ownsRow_low (ownsRow_of hB (fun b hb => ?_)) (by omega)
    simp only [Value.ownBlock, Option.some.injEq] at hb
    subst hb
    have hl : G < wr.heap.size := (hB.lt G rfl).2
    exact hM2.other G hl (by omega)
  · rcases bigR_mem x.R x.f x.m n2 x.m H.mle s hs with hs | rfl
    · exact ⟨(H.own s hs).1, hvb s hs⟩
    · exact ⟨zX_in, zX_own _ _⟩
  · show (bigR x.R x.f x.m n2 x.m).length ≤ x.room
    rw [hbl]; exact hn4
  · show x.m ≤ (bigR x.R x.f x.m n2 x.m).length
    rw [hbl]; omega
  · show 0 < (bigR x.R x.f x.m n2 x.m).length
    rw [hbl]; omega
  · rw [hfpn]
    refine List.nodup_cons.2 ⟨fun h => ?_, List.nodup_cons.2 ⟨fun h => ?_, v1⟩⟩
    · rcases List.mem_cons.1 h with h | h
      · omega
      · exact n1 (List.mem_append_right _ (v2 _ h))
    · obtain ⟨s, hs, hg⟩ := vbs_mem.1 (v2 _ h)
      have := (H.types (fp_mem.2 (Or.inr (Or.inr ⟨s, hs, hg⟩)))).2.1
      omega
  · rw [hfpn] at hb
    rcases List.mem_cons.1 hb with rfl | hb
    · exact Or.inl hBfp
    · rcases List.mem_cons.1 hb with rfl | hb
      · exact Or.inr (by omega)
      · obtain ⟨s, hs, hg⟩ := vbs_mem.1 (v2 _ hb)
        exact Or.inl (fp_mem.2 (Or.inr (Or.inr ⟨s, hs, hg⟩)))
end Go.Proofs.Ytnblbneehogadaa
