import Derived.Test.YtnblbneehogadaaLib
import Derived.Deep.AppendSrc
import Derived.Maps.AppendAt
import Derived.Lib.SliceRun
/- A slice from some place of its row on, at large: its cells, a part of it, one element more behind it. -/
namespace Go.Proofs.Ytnblbneehogadaa
open Go.RowKit
theorem setCells_heap6 {g : Nat} {T : TypeId} : ∀ (vs : List Value) (o : Nat) (cs : List Value) (w : World), w.heap[g]? = some (.cells cs.toArray T (0, 0)) → o + vs.length ≤ cs.length →
    (w.setCells g o vs).heap[g]? = some (.cells (cs.take o ++ vs ++ cs.drop (o + vs.length)).toArray T (0, 0)) ∧ (∀ k, k ≠ g → (w.setCells g o vs).heap[k]? = w.heap[k]?) ∧ (w.setCells g o vs).heap.size = w.heap.size ∧ (w.setCells g o vs).os = w.os ∧ (w.setCells g o vs).tape = w.tape ∧ (w.setCells g o vs).output = w.output
  | [], o, cs, w, h, _ => by
    refine ⟨?_, fun _ _ => rfl, rfl, rfl, rfl, rfl⟩
    show w.heap[g]? = _
    rw [h]
    simp
  | v :: vs, o, cs, w, h, hl => by
    rw [List.length_cons] at hl
    have h1 := heap_setCell_same w g o _ _ v h
    rw [List.setIfInBounds_toArray] at h1
    obtain ⟨q1, q2, q3, q4, q5, q6⟩ := setCells_heap6 vs (o + 1) (cs.set o v) (w.setCell ⟨g, o, none⟩ v) h1 (by rw [List.length_set]; omega)
    refine ⟨?_, fun k hk => ?_, q3.trans (by simp), q4, q5, q6⟩
    · show ((w.setCell ⟨g, o, none⟩ v).setCells g (o + 1) vs).heap[g]? = _
      rw [q1]
      congr 2
      apply congrArg
      have ho : o < cs.length := by omega
      apply List.ext_getElem?
      intro j
      rw [List.length_cons]
      simp only [List.getElem?_append, List.length_append, List.length_take, List.length_set, List.length_cons, List.getElem?_take, List.getElem?_drop, List.getElem?_set, List.getElem?_cons]
      have hm1 : min (o + 1) cs.length = o + 1 := by omega
      have hm2 : min o cs.length = o := by omega
      rw [hm1, hm2]
      by_cases h1 : j < o
      · simp [h1, show j < o + 1 by omega, show j < o + 1 + vs.length by omega, show j < o + (vs.length + 1) by omega, show ¬ o = j by omega]
      · by_cases h2 : j = o
        · subst h2
          simp [ho, show j < j + 1 + vs.length by omega]
        · by_cases h3 : j < o + 1 + vs.length
          · simp [h1, show ¬ j < o + 1 by omega, h3, show j < o + (vs.length + 1) by omega, show ¬ j - o = 0 by omega, show j - o - 1 = j - (o + 1) by omega]
          · have e1 : ¬ o = o + 1 + vs.length + (j - (o + 1 + vs.length)) := by omega
            simp [h1, h3, show ¬ j < o + 1 by omega, show ¬ j < o + (vs.length + 1) by omega, e1, show o + (vs.length + 1) + (j - (o + (vs.length + 1))) = o + 1 + vs.length + (j - (o + 1 + vs.length)) by omega]
    · show ((w.setCell ⟨g, o, none⟩ v).setCells g (o + 1) vs).heap[k]? = _
      rw [q2 k hk]
      exact heap_setCell_other w ⟨g, o, none⟩ k v hk
/-- The slice v holds the cells ys of n elements of s cells each: its row, from some place on, lies in a block from base on, if there is one. -/
def SubRow (w : World) (base : Nat) (e : TypeId) (s : Nat) (v : Value) (n : Nat) (ys : List Value) : Prop :=
  ys.length = n * s ∧ ((v = .slice none 0 0 ∧ n = 0) ∨ ∃ (g o cap : Nat) (cur : List Value), v = .slice (some ⟨g, o, none⟩) n cap ∧ base ≤ g ∧ w.heap[g]? = some (.cells cur.toArray e (0, 0)) ∧ n ≤ cap ∧ cap ≤ maxLen ∧ o + cap * s ≤ cur.length ∧ (cur.drop o).take (n * s) = ys)
theorem SubRow.nil (w : World) (base : Nat) (e : TypeId) (s : Nat) : SubRow w base e s (.slice none 0 0) 0 [] := ⟨by simp, Or.inl ⟨rfl, rfl⟩⟩
section
variable {w : World} {base : Nat} {e : TypeId} {s : Nat} {v : Value} {n : Nat} {ys : List Value}
theorem SubRow.form (h : SubRow w base e s v n ys) : ∃ a c, v = .slice a n c := by
  rcases h.2 with ⟨rfl, rfl⟩ | ⟨g, o, cap, cur, rfl, _⟩
  · exact ⟨_, _, rfl⟩
  · exact ⟨_, _, rfl⟩
theorem SubRow.cells {a : Option Addr} {c : Nat} (h : SubRow w base e s (.slice a n c) n ys) : CellsAt w a ys := by
  rcases h.2 with ⟨hv, h0⟩ | ⟨g, o, cap, cur, hv, hbg, hg, hnc, hcm, hcs, htk⟩
  · intro j u hj
    have : ys = [] := List.length_eq_zero_iff.1 (by rw [h.1, h0]; simp)
    rw [this] at hj
    simp at hj
  · simp only [Value.slice.injEq] at hv
    obtain ⟨rfl, -, rfl⟩ := hv
    intro j u hj
    refine ⟨g, o, rfl, ?_⟩
    rw [Lib.cell_of_heap hg, ← Array.getElem?_toList]
    rw [← htk, List.getElem?_take] at hj
    split at hj
    · rw [List.getElem?_drop] at hj
      exact hj
    · cases hj
theorem SubRow.block (h : SubRow w base e s v n ys) {g : Nat} (hg : v.ownBlock = some g) : base ≤ g ∧ ∃ cs, w.heap[g]? = some (.cells cs e (0, 0)) := by
  rcases h.2 with ⟨rfl, _⟩ | ⟨g', o, cap, cur, rfl, hbg, hgb, _⟩
  · cases hg
  · simp only [Value.ownBlock, Option.some.injEq] at hg
    subst hg
    exact ⟨hbg, _, hgb⟩
theorem SubRow.keep {w' : World} (h : SubRow w base e s v n ys) (hk : ∀ g, v.ownBlock = some g → w'.heap[g]? = w.heap[g]?) : SubRow w' base e s v n ys := by
  refine ⟨h.1, ?_⟩
  rcases h.2 with h0 | ⟨g, o, cap, cur, rfl, hbg, hg, r⟩
  · exact Or.inl h0
  · exact Or.inr ⟨g, o, cap, cur, rfl, hbg, (hk g rfl).trans hg, r⟩
theorem SubRow.lower {base' : Nat} (h : SubRow w base e s v n ys) (hb : base' ≤ base) : SubRow w base' e s v n ys := by
  refine ⟨h.1, ?_⟩
  rcases h.2 with h0 | ⟨g, o, cap, cur, hv, hbg, r⟩
  · exact Or.inl h0
  · exact Or.inr ⟨g, o, cap, cur, hv, Nat.le_trans hb hbg, r⟩
/-- v[k:] -/
theorem SubRow.from (h : SubRow w base e s v n ys) (k : Nat) (hk : k ≤ n) : (n = 0 ∧ v = .slice none 0 0) ∨ ∃ g o cap A, v = .slice (some ⟨g, o, none⟩) n cap ∧ n ≤ cap ∧ (if cap = k then some (⟨g, o, none⟩ : Addr) else some ⟨g, o + k * s, none⟩) = some A ∧ SubRow w base e s (.slice (some A) (n - k) (cap - k)) (n - k) (ys.drop (k * s)) ∧ (Value.slice (some A) (n - k) (cap - k)).ownBlock = v.ownBlock := by
  have hl : (ys.drop (k * s)).length = (n - k) * s := by rw [List.length_drop, h.1, Nat.sub_mul]
  rcases h.2 with ⟨hv, h0⟩ | ⟨g, o, cap, cur, rfl, hbg, hg, hnc, hcm, hcs, htk⟩
  · exact Or.inl ⟨h0, hv⟩
  · right
    by_cases hck : cap = k
    · refine ⟨g, o, cap, _, rfl, hnc, if_pos hck, ⟨hl, Or.inr ⟨g, o, cap - k, cur, rfl, hbg, hg, by omega, by omega, ?_, ?_⟩⟩, rfl⟩
      · have : cap - k = 0 := by omega
        rw [this]
        have h9 : 0 ≤ cap * s := Nat.zero_le _
        omega
      · have e1 : n - k = 0 := by omega
        rw [e1, Nat.zero_mul, List.take_zero]
        symm
        apply List.length_eq_zero_iff.1
        rw [hl, e1, Nat.zero_mul]
    · refine ⟨g, o, cap, _, rfl, hnc, if_neg hck, ⟨hl, Or.inr ⟨g, o + k * s, cap - k, cur, rfl, hbg, hg, by omega, by omega, ?_, ?_⟩⟩, rfl⟩
      · rw [Nat.sub_mul]
        have : k * s ≤ cap * s := Nat.mul_le_mul_right _ (by omega)
        omega
      · rw [← htk, List.drop_take, List.drop_drop, Nat.sub_mul]
end
/-- append(v, x): one element more. -/
theorem SubRow.push {P : Program} {w : World} {base : Nat} {t ty e : TypeId} {i : TypeInfo} {z : Value} {s bytes : Nat} (ht : P.underlying t = some (.slice e)) (hi : P.info? e = some i) (hz : i.zero = some z)
    (hsize : i.size = s) (hby : i.bytes = bytes) (hzs : z.cells.size = s) {v : Value} {n : Nat} {ys : List Value} (h : SubRow w base e s v n ys) (a : Addr) (c : Nat) (news : List Value) (hl : news.length = s)
    (hnews : ∀ j u, news[j]? = some u → w.cell? (a.add j) = some u) (h1 : ∀ u ∈ news, u.oneCell' = true) (hlen : n + 1 ≤ 1000000) (hbytes : (n + 1) * bytes ≤ 140737488355328) (hbase : base ≤ w.heap.size) :
    ∃ v' w', (Builtin.append_ #[t, t] ty #[v, .slice (some a) 1 c]).run P w = .ok v' w' ∧ SubRow w' base e s v' (n + 1) (ys ++ news) ∧ w.grownBy w' v.ownBlock ∧ (v'.ownBlock = v.ownBlock ∨ v'.ownBlock = some w.heap.size) := by
  subst hsize
  subst hby
  have hl2 : (ys ++ news).length = (n + 1) * i.size := by rw [List.length_append, h.1, hl, Nat.add_mul, Nat.one_mul]
  have hsrc : Src P i.size t (.slice (some a) 1 c) 1 news w := Src.ofSlice w ht a 1 c news (by rw [hl, Nat.one_mul]) hnews h1
  have grown : ∀ old : Nat, old < n + 1 → ∀ row : Option Nat,
      SubRow (w.drew.alloc (.cells ((ys ++ news).toArray ++ Builtin.zeroCells z.cells (grownCap w (n + 1) old e - (n + 1))) e)) base e i.size (.slice (some ⟨w.heap.size, 0, none⟩) (n + 1) (grownCap w (n + 1) old e)) (n + 1) (ys ++ news) ∧
      w.grownBy (w.drew.alloc (.cells ((ys ++ news).toArray ++ Builtin.zeroCells z.cells (grownCap w (n + 1) old e - (n + 1))) e)) row := by
    intro old ho row
    have hge := grownCap_ge w (n + 1) old e
    have hcm : grownCap w (n + 1) old e ≤ maxLen := grownCap_le_maxLen w (n + 1) old e (by unfold maxLen; omega)
    refine ⟨⟨hl2, Or.inr ⟨w.heap.size, 0, _, ((ys ++ news).toArray ++ Builtin.zeroCells z.cells (grownCap w (n + 1) old e - (n + 1))).toList, rfl, hbase, heap_alloc_new w.drew _, hge, hcm, ?_, ?_⟩⟩, ⟨rfl, rfl, rfl, by simp, fun k hk _ => heap_alloc_old w.drew _ hk⟩⟩
    · rw [Array.length_toList, Array.size_append, List.size_toArray, size_zeroCells, hzs, hl2, Nat.zero_add, ← Nat.add_mul]
      exact Nat.mul_le_mul_right _ (by omega)
    · rw [List.drop_zero, Array.toList_append, List.toList_toArray, ← hl2]
      exact List.take_left
  rcases h.2 with ⟨rfl, rfl⟩ | ⟨g, o, cap, cur, rfl, hbg, hg, hnc, hcm, hcs, htk⟩
  · have hy : ys = [] := List.length_eq_zero_iff.1 (by rw [h.1, Nat.zero_mul])
    subst hy
    have hr := run_append_grow_src (P := P) w t t ty e i z ht hi hz none 0 0 [] (run_firstCells_none w.drew i.size 0 0 0) (.slice (some a) 1 c) 1 news hsrc (by omega) (by omega) (by
      have := growslice_fits (need := 0 + 1) (old := 0) (bytes := i.bytes) (by omega) hbytes
      exact this)
    have hgr := grown 0 (by omega) (Value.ownBlock (.slice none 0 0))
    exact ⟨_, _, hr, hgr.1, hgr.2, Or.inr rfl⟩
  · by_cases hroom : n + 1 ≤ cap
    · have hmul : (n + 1) * i.size ≤ cap * i.size := Nat.mul_le_mul_right _ hroom
      have hm1 : (n + 1) * i.size = n * i.size + i.size := by rw [Nat.add_mul, Nat.one_mul]
      have hr := run_append_room_src (P := P) w t t ty e i ht hi g o n cap (.slice (some a) 1 c) 1 news hsrc hroom
        (fun j hj => by
          rw [Lib.cell_of_heap hg, ← Array.getElem?_toList, List.getElem?_eq_getElem (by rw [List.toList_toArray]; omega)]
          rfl) (fun j _ => Lib.frozen_of_heap hg _)
      obtain ⟨q1, q2, q3, q4, q5, q6⟩ := setCells_heap6 news (o + n * i.size) cur w hg (by omega)
      refine ⟨_, _, hr, ⟨hl2, Or.inr ⟨g, o, cap, _, rfl, hbg, q1, hroom, hcm, ?_, ?_⟩⟩, ⟨q4, q5, q6, by rw [q3]; exact Nat.le_refl _, fun k _ hk => q2 k (fun e => hk (by simp [Value.ownBlock, e]))⟩, Or.inl rfl⟩
      · simp only [List.length_append, List.length_take, List.length_drop]; omega
      · have e1 : (cur.take (o + n * i.size) ++ news ++ cur.drop (o + n * i.size + news.length)).drop o = (cur.drop o).take (n * i.size) ++ (news ++ cur.drop (o + n * i.size + news.length)) := by
          rw [List.append_assoc, List.drop_append_of_le_length (by rw [List.length_take]; omega), List.drop_take]
          congr 2
          omega
        rw [e1, htk, ← List.append_assoc, ← hl2]
        exact List.take_left
    · have hold : (Builtin.firstCells i.size n (.slice (some ⟨g, o, none⟩) n cap)).run P w.drew = .ok ys.toArray w.drew := run_firstCells_some w.drew i.size n ⟨g, o, none⟩ n cap ys h.1 (fun j u hj => by
        obtain ⟨b, o', hb, hc⟩ := (h.cells) j u hj
        cases hb
        rw [Addr.add_lit]
        simpa using hc)
      have hr := run_append_grow_src (P := P) w t t ty e i z ht hi hz (some ⟨g, o, none⟩) n cap ys hold (.slice (some a) 1 c) 1 news hsrc (by omega) (by omega) (growslice_fits (by omega) hbytes)
      have hgr := grown cap (by omega) (Value.ownBlock (.slice (some ⟨g, o, none⟩) n cap))
      exact ⟨_, _, hr, hgr.1, hgr.2, Or.inr rfl⟩
end Go.Proofs.Ytnblbneehogadaa
