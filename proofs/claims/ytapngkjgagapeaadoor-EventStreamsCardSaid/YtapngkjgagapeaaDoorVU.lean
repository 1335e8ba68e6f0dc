import Derived.Test.YtapngkjgagapeaaDoorLib
import Derived.Deep.AppendSrc
import Derived.Maps.AppendAt
import Derived.Lib.SliceRun
import Derived.Test.YtapngkjgagapeaaDoorVQ
import Derived.Lib.LaidU8
import Derived.OpenShut
import Derived.Deep.Fields
import Derived.ChangeSame
/- What the law EventStreams keeps: a slice from some place of its row on, a copy of a stream, the calls that come in, the counts. -/
namespace Go.Proofs.YtapngkjgagapeaaDoor
open Go.RowKit
theorem setCells_heap6 {g : Nat} {T : TypeId} : ∀ (vs : List Value) (o : Nat) (cs : List Value) (w : World), w.heap[g]? = some (.cells cs.toArray T (0, 0)) → o + vs.length ≤ cs.length →
    (w.setCells g o vs).heap[g]? = some (.cells (cs.take o ++ vs ++ cs.drop (o + vs.length)).toArray T (0, 0)) ∧ (∀ k, k ≠ g → (w.setCells g o vs).heap[k]? = w.heap[k]?) ∧ (w.setCells g o vs).heap.size = w.heap.size ∧ (w.setCells g o vs).os = w.os ∧ (w.setCells g o vs).tape = w.tape ∧ (w.setCells g o vs).output = w.output
  | [], o, cs, w, h, _ => by
    refine ⟨?_, fun _ _ => rfl, rfl, rfl, rfl, rfl⟩
    show w.heap[g]? = _
    rw [h]
    simp
  | v :: vs, o, cs, w, h, hl => by
    rw [List.length_cons] at hl
    have h1 := heap_setCell_same w g o _ _ v h
    rw [List.setIfInBounds_toArray] at h1
    obtain ⟨q1, q2, q3, q4, q5, q6⟩ := setCells_heap6 vs (o + 1) (cs.set o v) (w.setCell ⟨g, o, none⟩ v) h1 (by rw [List.length_set]; omega)
    refine ⟨?_, fun k hk => ?_, q3.trans (by simp), q4, q5, q6⟩
    · show ((w.setCell ⟨g, o, none⟩ v).setCells g (o + 1) vs).heap[g]? = _
      rw [q1]
      congr 2
      apply congrArg
      have ho : o < cs.length := by omega
      apply List.ext_getElem?
      intro j
      rw [List.length_cons]
      simp only [List.getElem?_append, List.length_append, List.length_take, List.length_set, List.length_cons, List.getElem?_take, List.getElem?_drop, List.getElem?_set, List.getElem?_cons]
      have hm1 : min (o + 1) cs.length = o + 1 := by omega
      have hm2 : min o cs.length = o := by omega
      rw [hm1, hm2]
      by_cases h1 : j < o
      · simp [h1, show j < o + 1 by omega, show j < o + 1 + vs.length by omega, show j < o + (vs.length + 1) by omega, show ¬ o = j by omega]
      · by_cases h2 : j = o
        · subst h2
          simp [ho, show j < j + 1 + vs.length by omega]
        · by_cases h3 : j < o + 1 + vs.length
          · simp [h1, show ¬ j < o + 1 by omega, h3, show j < o + (vs.length + 1) by omega, show ¬ j - o = 0 by omega, show j - o - 1 = j - (o + 1) by omega]
          · have e1 : ¬ o = o + 1 + vs.length + (j - (o + 1 + vs.length)) := by omega
            simp [h1, h3, show ¬ j < o + 1 by omega, show ¬ j < o + (vs.length + 1) by omega, e1, show o + (vs.length + 1) + (j - (o + (vs.length + 1))) = o + 1 + vs.length + (j - (o + 1 + vs.length)) by omega]
    · show ((w.setCell ⟨g, o, none⟩ v).setCells g (o + 1) vs).heap[k]? = _
      rw [q2 k hk]
      exact heap_setCell_other w ⟨g, o, none⟩ k v hk
/-- The slice v holds the cells ys of n elements of s cells each: its row, from some place on, lies in a block from base on, if there is one. -/
def SubRow (w : World) (base : Nat) (e : TypeId) (s : Nat) (v : Value) (n : Nat) (ys : List Value) : Prop :=
  ys.length = n * s ∧ ((v = .slice none 0 0 ∧ n = 0) ∨ ∃ (g o cap : Nat) (cur : List Value), v = .slice (some ⟨g, o, none⟩) n cap ∧ base ≤ g ∧ w.heap[g]? = some (.cells cur.toArray e (0, 0)) ∧ n ≤ cap ∧ cap ≤ maxLen ∧ o + cap * s ≤ cur.length ∧ (cur.drop o).take (n * s) = ys)
theorem SubRow.nil (w : World) (base : Nat) (e : TypeId) (s : Nat) : SubRow w base e s (.slice none 0 0) 0 [] := ⟨by simp, Or.inl ⟨rfl, rfl⟩⟩
section
variable {w : World} {base : Nat} {e : TypeId} {s : Nat} {v : Value} {n : Nat} {ys : List Value}
theorem SubRow.form (h : SubRow w base e s v n ys) : ∃ a c, v = .slice a n c := by
  rcases h.2 with ⟨rfl, rfl⟩ | ⟨g, o, cap, cur, rfl, _⟩
  · exact ⟨_, _, rfl⟩
  · exact ⟨_, _, rfl⟩
theorem SubRow.cells {a : Option Addr} {c : Nat} (h : SubRow w base e s (.slice a n c) n ys) : CellsAt w a ys := by
  rcases h.2 with ⟨hv, h0⟩ | ⟨g, o, cap, cur, hv, hbg, hg, hnc, hcm, hcs, htk⟩
  · intro j u hj
    have : ys = [] := List.length_eq_zero_iff.1 (by rw [h.1, h0]; simp)
    rw [this] at hj
    simp at hj
  · simp only [Value.slice.injEq] at hv
    obtain ⟨rfl, -, rfl⟩ := hv
    intro j u hj
    refine ⟨g, o, rfl, ?_⟩
    rw [Lib.cell_of_heap hg, ← Array.getElem?_toList]
    rw [← htk, List.getElem?_take] at hj
    split at hj
    · rw [List.getElem?_drop] at hj
      exact hj
    · cases hj
theorem SubRow.block (h : SubRow w base e s v n ys) {g : Nat} (hg : v.ownBlock = some g) : base ≤ g ∧ ∃ cs, w.heap[g]? = some (.cells cs e (0, 0)) := by
  rcases h.2 with ⟨rfl, _⟩ | ⟨g', o, cap, cur, rfl, hbg, hgb, _⟩
  · cases hg
  · simp only [Value.ownBlock, Option.some.injEq] at hg
    subst hg
    exact ⟨hbg, _, hgb⟩
theorem SubRow.keep {w' : World} (h : SubRow w base e s v n ys) (hk : ∀ g, v.ownBlock = some g → w'.heap[g]? = w.heap[g]?) : SubRow w' base e s v n ys := by
  refine ⟨h.1, ?_⟩
  rcases h.2 with h0 | ⟨g, o, cap, cur, rfl, hbg, hg, r⟩
  · exact Or.inl h0
  · exact Or.inr ⟨g, o, cap, cur, rfl, hbg, (hk g rfl).trans hg, r⟩
theorem SubRow.lower {base' : Nat} (h : SubRow w base e s v n ys) (hb : base' ≤ base) : SubRow w base' e s v n ys := by
  refine ⟨h.1, ?_⟩
  rcases h.2 with h0 | ⟨g, o, cap, cur, hv, hbg, r⟩
  · exact Or.inl h0
  · exact Or.inr ⟨g, o, cap, cur, hv, Nat.le_trans hb hbg, r⟩
/-- v[k:] -/
theorem SubRow.from (h : SubRow w base e s v n ys) (k : Nat) (hk : k ≤ n) : (n = 0 ∧ v = .slice none 0 0) ∨ ∃ g o cap A, v = .slice (some ⟨g, o, none⟩) n cap ∧ n ≤ cap ∧ (if cap = k then some (⟨g, o, none⟩ : Addr) else some ⟨g, o + k * s, none⟩) = some A ∧ SubRow w base e s (.slice (some A) (n - k) (cap - k)) (n - k) (ys.drop (k * s)) ∧ (Value.slice (some A) (n - k) (cap - k)).ownBlock = v.ownBlock := by
  have hl : (ys.drop (k * s)).length = (n - k) * s := by rw [List.length_drop, h.1, Nat.sub_mul]
  rcases h.2 with ⟨hv, h0⟩ | ⟨g, o, cap, cur, rfl, hbg, hg, hnc, hcm, hcs, htk⟩
  · exact Or.inl ⟨h0, hv⟩
  · right
    by_cases hck : cap = k
    · refine ⟨g, o, cap, _, rfl, hnc, if_pos hck, ⟨hl, Or.inr ⟨g, o, cap - k, cur, rfl, hbg, hg, by omega, by omega, ?_, ?_⟩⟩, rfl⟩
      · have : cap - k = 0 := by omega
        rw [this]
        have h9 : 0 ≤ cap * s := Nat.zero_le _
        omega
      · have e1 : n - k = 0 := by omega
        rw [e1, Nat.zero_mul, List.take_zero]
        symm
        apply List.length_eq_zero_iff.1
        rw [hl, e1, Nat.zero_mul]
    · refine ⟨g, o, cap, _, rfl, hnc, if_neg hck, ⟨hl, Or.inr ⟨g, o + k * s, cap - k, cur, rfl, hbg, hg, by omega, by omega, ?_, ?_⟩⟩, rfl⟩
      · rw [Nat.sub_mul]
        have : k * s ≤ cap * s := Nat.mul_le_mul_right _ (by omega)
        omega
      · rw [← htk, List.drop_take, List.drop_drop, Nat.sub_mul]
end
/-- append(v, x): one element more. -/
theorem SubRow.push {P : Program} {w : World} {base : Nat} {t ty e : TypeId} {i : TypeInfo} {z : Value} {s bytes : Nat} (ht : P.underlying t = some (.slice e)) (hi : P.info? e = some i) (hz : i.zero = some z)
    (hsize : i.size = s) (hby : i.bytes = bytes) (hzs : z.cells.size = s) {v : Value} {n : Nat} {ys : List Value} (h : SubRow w base e s v n ys) (a : Addr) (c : Nat) (news : List Value) (hl : news.length = s)
    (hnews : ∀ j u, news[j]? = some u → w.cell? (a.add j) = some u) (h1 : ∀ u ∈ news, u.oneCell' = true) (hlen : n + 1 ≤ 1000000) (hbytes : (n + 1) * bytes ≤ 140737488355328) (hbase : base ≤ w.heap.size) :
    ∃ v' w', (Builtin.append_ #[t, t] ty #[v, .slice (some a) 1 c]).run P w = .ok v' w' ∧ SubRow w' base e s v' (n + 1) (ys ++ news) ∧ w.grownBy w' v.ownBlock ∧ (v'.ownBlock = v.ownBlock ∨ v'.ownBlock = some w.heap.size) := by
  subst hsize
  subst hby
  have hl2 : (ys ++ news).length = (n + 1) * i.size := by rw [List.length_append, h.1, hl, Nat.add_mul, Nat.one_mul]
  have hsrc : Src P i.size t (.slice (some a) 1 c) 1 news w := Src.ofSlice w ht a 1 c news (by rw [hl, Nat.one_mul]) hnews h1
  have grown : ∀ old : Nat, old < n + 1 → ∀ row : Option Nat,
      SubRow (w.drew.alloc (.cells ((ys ++ news).toArray ++ Builtin.zeroCells z.cells (grownCap w (n + 1) old e - (n + 1))) e)) base e i.size (.slice (some ⟨w.heap.size, 0, none⟩) (n + 1) (grownCap w (n + 1) old e)) (n + 1) (ys ++ news) ∧
      w.grownBy (w.drew.alloc (.cells ((ys ++ news).toArray ++ Builtin.zeroCells z.cells (grownCap w (n + 1) old e - (n + 1))) e)) row := by
    intro old ho row
    have hge := grownCap_ge w (n + 1) old e
    have hcm : grownCap w (n + 1) old e ≤ maxLen := grownCap_le_maxLen w (n + 1) old e (by unfold maxLen; omega)
    refine ⟨⟨hl2, Or.inr ⟨w.heap.size, 0, _, ((ys ++ news).toArray ++ Builtin.zeroCells z.cells (grownCap w (n + 1) old e - (n + 1))).toList, rfl, hbase, heap_alloc_new w.drew _, hge, hcm, ?_, ?_⟩⟩, ⟨rfl, rfl, rfl, by simp, fun k hk _ => heap_alloc_old w.drew _ hk⟩⟩
    · rw [Array.length_toList, Array.size_append, List.size_toArray, size_zeroCells, hzs, hl2, Nat.zero_add, ← Nat.add_mul]
      exact Nat.mul_le_mul_right _ (by omega)
    · rw [List.drop_zero, Array.toList_append, List.toList_toArray, ← hl2]
      exact List.take_left
  rcases h.2 with ⟨rfl, rfl⟩ | ⟨g, o, cap, cur, rfl, hbg, hg, hnc, hcm, hcs, htk⟩
  · have hy : ys = [] := List.length_eq_zero_iff.1 (by rw [h.1, Nat.zero_mul])
    subst hy
    have hr := run_append_grow_src (P := P) w t t ty e i z ht hi hz none 0 0 [] (run_firstCells_none w.drew i.size 0 0 0) (.slice (some a) 1 c) 1 news hsrc (by omega) (by omega) (by
      have := growslice_fits (need := 0 + 1) (old := 0) (bytes := i.bytes) (by omega) hbytes
      exact this)
    have hgr := grown 0 (by omega) (Value.ownBlock (.slice none 0 0))
    exact ⟨_, _, hr, hgr.1, hgr.2, Or.inr rfl⟩
  · by_cases hroom : n + 1 ≤ cap
    · have hmul : (n + 1) * i.size ≤ cap * i.size := Nat.mul_le_mul_right _ hroom
      have hm1 : (n + 1) * i.size = n * i.size + i.size := by rw [Nat.add_mul, Nat.one_mul]
      have hr := run_append_room_src (P := P) w t t ty e i ht hi g o n cap (.slice (some a) 1 c) 1 news hsrc hroom
        (fun j hj => by
          rw [Lib.cell_of_heap hg, ← Array.getElem?_toList, List.getElem?_eq_getElem (by rw [List.toList_toArray]; omega)]
          rfl) (fun j _ => Lib.frozen_of_heap hg _)
      obtain ⟨q1, q2, q3, q4, q5, q6⟩ := setCells_heap6 news (o + n * i.size) cur w hg (by omega)
      refine ⟨_, _, hr, ⟨hl2, Or.inr ⟨g, o, cap, _, rfl, hbg, q1, hroom, hcm, ?_, ?_⟩⟩, ⟨q4, q5, q6, by rw [q3]; exact Nat.le_refl _, fun k _ hk => q2 k (fun e => hk (by simp [Value.ownBlock, e]))⟩, Or.inl rfl⟩
      · simp only [List.length_append, List.length_take, List.length_drop]; omega
      · have e1 : (cur.take (o + n * i.size) ++ news ++ cur.drop (o + n * i.size + news.length)).drop o = (cur.drop o).take (n * i.size) ++ (news ++ cur.drop (o + n * i.size + news.length)) := by
          rw [List.append_assoc, List.drop_append_of_le_length (by rw [List.length_take]; omega), List.drop_take]
          congr 2
          omega
        rw [e1, htk, ← List.append_assoc, ← hl2]
        exact List.take_left
    · have hold : (Builtin.firstCells i.size n (.slice (some ⟨g, o, none⟩) n cap)).run P w.drew = .ok ys.toArray w.drew := run_firstCells_some w.drew i.size n ⟨g, o, none⟩ n cap ys h.1 (fun j u hj => by
        obtain ⟨b, o', hb, hc⟩ := (h.cells) j u hj
        cases hb
        rw [Addr.add_lit]
        simpa using hc)
      have hr := run_append_grow_src (P := P) w t t ty e i z ht hi hz (some ⟨g, o, none⟩) n cap ys hold (.slice (some a) 1 c) 1 news hsrc (by omega) (by omega) (growslice_fits (by omega) hbytes)
      have hgr := grown cap (by omega) (Value.ownBlock (.slice (some ⟨g, o, none⟩) n cap))
      exact ⟨_, _, hr, hgr.1, hgr.2, Or.inr rfl⟩
set_option maxHeartbeats 1000000 in
theorem count_no (S : Nat) (L : List Nd) (cs : Nat → Nat) (n : Nat) (k : Int) (hk : kB k = false) (w : World) (h : Strm w S L cs n) : Calls Tryd.prog 21 #[.pointer (some ⟨S, 0, none⟩), .int .i64 k] w fun e w' => e = .returned (.int .u64 0) ∧ w = w' := by
  obtain ⟨s0, s1, s8, s9, _⟩ := h.cells
  have c1 : Box _ := ⟨none_any S w s9⟩
  have c2 : Box _ := ⟨fun w => kind_any k w⟩
  rw [hk] at c2
  clear h hk
  go_enter Tryd.func21, Tryd.ntmps21
  go_wp2_with (first | (go_at_call 46; (with_reducible refine (c1.out).mono ?_); rintro e w' ⟨rfl, rfl⟩) | (go_at_call 41; (with_reducible refine (c2.out _).mono ?_); rintro e w' ⟨rfl, rfl⟩))
  go_ret
  exact ⟨rfl, rfl⟩
def CPost (L : List Nd) (cs : Nat → Nat) (n : Nat) (w : World) (e : Ending) (w' : World) : Prop :=
  ∃ L' : List Nd, e = .returned (ptr w.heap.size) ∧ Strm w' w.heap.size L' cs n ∧ L'.map (·.v) = L.map (·.v) ∧ (∀ m ∈ L', OwnB w.heap.size w' m.u m.v.e.val) ∧ Ext w w'
set_option maxRecDepth 100000 in
set_option maxHeartbeats 4000000 in
theorem scopy_any (S : Nat) (L : List Nd) (cs : Nat → Nat) (n : Nat) (w : World) (h : Strm w S L cs n) (hL : L.length ≤ 1048576) (hg : ∀ m ∈ L, Good m.v) :
    Calls Tryd.prog 33 #[.pointer (some ⟨S, 0, none⟩)] w (CPost L cs n w) := by
  obtain ⟨s0, s1, s8, s9, f0, f1, f8⟩ := h.cells
  have c1 : Box _ := ⟨none_any S w s9⟩
  have c2 : Box (Calls Tryd.prog 16 #[] w fun e w' => e = .returned (.pointer (some ⟨w.heap.size, 0, none⟩)) ∧ Strm w' w.heap.size [] (fun _ => 0) 0 ∧ Ext w w') := ⟨new_any w⟩
  have H := Box.mk h; have HG := Box.mk hg
  obtain ⟨Post, hPost⟩ : ∃ P, P = CPost L cs n w := ⟨_, rfl⟩
  rw [← hPost]
  have HP := Box.mk hPost
  have hSlt := blk_lt h.hd
  clear hPost h hg s0 s1 s8 s9 f0 f1 f8
  obtain ⟨C, hC⟩ : ∃ C, C = w.heap.size := ⟨_, rfl⟩
  rw [← hC] at c2
  have hne : S ≠ C := by omega
  have HC := Box.mk hC
  clear hC
  go_enter Tryd.func33, Tryd.ntmps33
  go_upto_region 4 with (first
    | (go_at_call 46; (with_reducible refine (c1.out).mono ?_); rintro e w' ⟨rfl, rfl⟩)
    | (go_at_call 16; (with_reducible refine (c2.out).mono ?_); rintro e w1 ⟨rfl, hC1, hx1⟩))
  have hS1 := H.out.ext hx1
  have k0 : w1.cell? ⟨S, 2, none⟩ = some (.int .u64 (cs 0)) := hS1.kinds 0 (by decide)
  have k1 : w1.cell? ⟨S, 3, none⟩ = some (.int .u64 (cs 1)) := hS1.kinds 1 (by decide)
  have k2 : w1.cell? ⟨S, 4, none⟩ = some (.int .u64 (cs 2)) := hS1.kinds 2 (by decide)
  have k3 : w1.cell? ⟨S, 5, none⟩ = some (.int .u64 (cs 3)) := hS1.kinds 3 (by decide)
  have k4 : w1.cell? ⟨S, 6, none⟩ = some (.int .u64 (cs 4)) := hS1.kinds 4 (by decide)
  have k5 : w1.cell? ⟨S, 7, none⟩ = some (.int .u64 (cs 5)) := hS1.kinds 5 (by decide)
  have k6 : w1.cell? ⟨S, 8, none⟩ = some (.int .i64 n) := hS1.cells.2.2.1
  have k7 := hS1.cells.1
  have g0 : w1.cell? ⟨C, 2, none⟩ = some (.int .u64 0) := hC1.kinds 0 (by decide)
  have g1 : w1.cell? ⟨C, 3, none⟩ = some (.int .u64 0) := hC1.kinds 1 (by decide)
  have g2 : w1.cell? ⟨C, 4, none⟩ = some (.int .u64 0) := hC1.kinds 2 (by decide)
  have g3 : w1.cell? ⟨C, 5, none⟩ = some (.int .u64 0) := hC1.kinds 3 (by decide)
  have g4 : w1.cell? ⟨C, 6, none⟩ = some (.int .u64 0) := hC1.kinds 4 (by decide)
  have g5 : w1.cell? ⟨C, 7, none⟩ = some (.int .u64 0) := hC1.kinds 5 (by decide)
  have g6 : w1.cell? ⟨C, 8, none⟩ = some (.int .i64 0) := hC1.cells.2.2.1
  have z0 := Lib.frozen_of_heap hC1.hd 2
  have z1 := Lib.frozen_of_heap hC1.hd 3
  have z2 := Lib.frozen_of_heap hC1.hd 4
  have z3 := Lib.frozen_of_heap hC1.hd 5
  have z4 := Lib.frozen_of_heap hC1.hd 6
  have z5 := Lib.frozen_of_heap hC1.hd 7
  have z6 := Lib.frozen_of_heap hC1.hd 8
  have hne2 : C ≠ S := fun e => hne e.symm
  replace hC1 := Box.mk hC1
  replace hx1 := Box.mk hx1
  replace hS1 := Box.mk hS1
  go_upto_region 5 with (fail)
  have hWS : Box (∀ w2, w2 = (((((((w1.setCell ⟨C, 2, none⟩ (.int .u64 (cs 0))).setCell ⟨C, 3, none⟩ (.int .u64 (cs 1))).setCell ⟨C, 4, none⟩ (.int .u64 (cs 2))).setCell ⟨C, 5, none⟩ (.int .u64 (cs 3))).setCell ⟨C, 6, none⟩ (.int .u64 (cs 4))).setCell ⟨C, 7, none⟩ (.int .u64 (cs 5))).setCell ⟨C, 8, none⟩ (.int .i64 n)) → Strm w2 C [] cs n ∧ Ext w w2) := ⟨fun w2 e => by
    subst e
    refine ⟨⟨?_, trivial, fun m hm => (by cases hm), List.Pairwise.nil⟩, ?_⟩
    · rw [heap_setCell_same _ C 8 _ _ _ (heap_setCell_same _ C 7 _ _ _ (heap_setCell_same _ C 6 _ _ _ (heap_setCell_same _ C 5 _ _ _ (heap_setCell_same _ C 4 _ _ _ (heap_setCell_same _ C 3 _ _ _ (heap_setCell_same w1 C 2 _ _ _ hC1.out.hd))))))]
      rfl
    · have hc : w.heap.size ≤ C := by rw [HC.out]; exact Nat.le_refl _
      exact Below.setCell (Below.setCell (Below.setCell (Below.setCell (Below.setCell (Below.setCell (Below.setCell hx1.out (p := ⟨C, 2, none⟩) hc _) (p := ⟨C, 3, none⟩) hc _) (p := ⟨C, 4, none⟩) hc _) (p := ⟨C, 5, none⟩) hc _) (p := ⟨C, 6, none⟩) hc _) (p := ⟨C, 7, none⟩) hc _) (p := ⟨C, 8, none⟩) hc _⟩
  obtain ⟨hS2, hE2⟩ := hWS.out _ rfl
  generalize (((((((w1.setCell ⟨C, 2, none⟩ (.int .u64 (cs 0))).setCell ⟨C, 3, none⟩ (.int .u64 (cs 1))).setCell ⟨C, 4, none⟩ (.int .u64 (cs 2))).setCell ⟨C, 5, none⟩ (.int .u64 (cs 3))).setCell ⟨C, 6, none⟩ (.int .u64 (cs 4))).setCell ⟨C, 7, none⟩ (.int .u64 (cs 5))).setCell ⟨C, 8, none⟩ (.int .i64 n)) = w2 at *
  replace hS2 := Box.mk hS2
  replace hE2 := Box.mk hE2
  clear k0 k1 k2 k3 k4 k5 k6 k7 g0 g1 g2 g3 g4 g5 g6 z0 z1 z2 z3 z4 z5 z6 hC1 hx1 hS1 hWS
  obtain ⟨M, hM⟩ : ∃ M, M = w.heap.size := ⟨_, rfl⟩
  have hlt : Box (∀ m ∈ L, m.at_ < M) := ⟨fun m hm => by rw [hM]; exact H.out.lt m hm⟩
  have w0 := hS2.out.ext (Below.refl _ _)
  have e0 := (H.out.ext hE2.out).cells.1
  clear w0
  go_wp2_with (fail)
  go_loopw [4] (fun nv wr => ∃ (t : Nat) (L' : List Nd), t ≤ L.length ∧ nv = nxt (L.drop t) (.pointer none) ∧ Box (Strm wr C L' cs n) ∧ Box (L'.map (·.v) = (L.take t).map (·.v)) ∧ Box (∀ m ∈ L', OwnB w.heap.size wr m.u m.v.e.val) ∧ Box (Ext w wr)) (fun nv _ => match nv with | .pointer (some a) => M + 1 - a.block | _ => 0)
  case atStart => exact ⟨0, [], Nat.zero_le _, rfl, hS2, ⟨rfl⟩, ⟨fun m hm => by cases hm⟩, hE2⟩
  case round =>
    obtain ⟨t, L', htL, rfl, hS', hmap, hO', hE⟩ := hrel
    by_cases ht : t < L.length
    · have hnd := H.out.lk.get t ht
      have hnb := Ext.blk hE.out hnd.2.1
      obtain ⟨n0, n1, n2, n3, n4, n5, n6⟩ := node_cells hnb
      obtain ⟨⟨pa, pc, hu⟩, _, hby⟩ := hnd
      rw [hu] at n2 hby
      have hdropq : nxt (L.drop t) (.pointer none) = .pointer (some ⟨L[t].at_, 0, none⟩) := by rw [List.drop_eq_getElem_cons ht]; rfl
      rw [hdropq]
      have hnM := hlt.out _ (List.getElem_mem ht)
      have hnC : L[t].at_ < C := by rw [HC.out, ← hM]; exact hnM
      have hmeas : Box (nxt (L.drop (t + 1)) (.pointer none) = .pointer none ∨ ∃ b, nxt (L.drop (t + 1)) (.pointer none) = .pointer (some ⟨b, 0, none⟩) ∧ L[t].at_ < b ∧ b < M) := ⟨by
        by_cases h2 : t + 1 < L.length
        · right
          refine ⟨L[t + 1].at_, by rw [List.drop_eq_getElem_cons h2]; rfl, List.pairwise_iff_getElem.1 H.out.inc t (t + 1) ht h2 (by omega), hlt.out _ (List.getElem_mem h2)⟩
        · left
          rw [List.drop_of_length_le (by omega)]; rfl⟩
      obtain ⟨np, hnp⟩ := nxt_ptr (L.drop (t + 1))
      rw [hnp] at n6
      have hgood := HG.out _ (List.getElem_mem ht)
      have hsz1 := (Evt.sizes hgood.1).2
      have co : Box (∀ w', Ext w w' → Calls Tryd.prog 48 #[.agg #[.int .i64 L[t].v.kind, .string (bs L[t].v.e.key), .slice pa L[t].v.e.val.length pc, .int .u64 L[t].v.e.birth, .int .u64 L[t].v.e.dl, .int .u64 L[t].v.now]] w' fun e w'' => ∃ a' c', e = .returned (.agg #[.int .i64 L[t].v.kind, .string (bs L[t].v.e.key), .slice a' L[t].v.e.val.length c', .int .u64 L[t].v.e.birth, .int .u64 L[t].v.e.dl, .int .u64 L[t].v.now]) ∧ OwnB w.heap.size w'' (.slice a' L[t].v.e.val.length c') L[t].v.e.val ∧ Ext w' w'') := ⟨fun w' hx => (own_any (L[t].v.kind : Int) (bs L[t].v.e.key) pa L[t].v.e.val pc L[t].v.e.birth L[t].v.e.dl L[t].v.now w' (hby.ext hx)).mono fun e w'' ⟨a', c', h1, h2, h3⟩ => ⟨a', c', h1, h2.mono hx.size, h3⟩⟩
      have ca : Box (∀ w' a' c', Ext wr w' → OwnB w.heap.size w' (.slice a' L[t].v.e.val.length c') L[t].v.e.val → Calls Tryd.prog 47 #[.pointer (some ⟨C, 0, none⟩), .agg #[.int .i64 L[t].v.kind, .string (bs L[t].v.e.key), .slice a' L[t].v.e.val.length c', .int .u64 L[t].v.e.birth, .int .u64 L[t].v.e.dl, .int .u64 L[t].v.now]] w' fun e w'' => e = .returned (.tuple #[]) ∧ ∃ m : Nd, m.v = L[t].v ∧ Strm w'' C (L' ++ [m]) cs n ∧ (∀ m' ∈ L' ++ [m], OwnB w.heap.size w'' m'.u m'.v.e.val) ∧ Ext w w'' ∧ w''.heap[L[t].at_]? = w'.heap[L[t].at_]?) := ⟨fun w' a' c' hx ho => (add_any C L' cs n L[t].v a' c' w' (hS'.out.ext hx) (ho.by (by omega))).mono (by
        rintro e w'' ⟨he, h1, h2⟩
        have hSx := hS'.out.ext hx
        have hk := Keep.strm hSx h2
        have hownC : ∀ j, Own C L' j → C ≤ j := by
          rintro j (rfl | ⟨m, hm, rfl⟩)
          · exact Nat.le_refl _
          · have := hS'.out.up m hm; omega
        have hxw := Ext.trans' hE.out hx
        refine ⟨he, ⟨w'.heap.size + 1, .slice a' L[t].v.e.val.length c', L[t].v⟩, rfl, h1, fun m' hm' => ?_, h2.ext w hxw (fun x hxo => by rw [← HC.out]; exact hownC x hxo), h2.other _ (by have := hxw.size; rw [← HC.out] at this; omega) (fun ho => by have := hownC _ ho; omega)⟩
        rcases List.mem_append.1 hm' with hm' | hm'
        · exact ((hO'.out m' hm').ext hx).keep hk tS_u8
        · simp only [List.mem_singleton] at hm'
          subst hm'
          exact ho.keep hk tS_u8)⟩
      have hmp : Box (∀ m : Nd, m.v = L[t].v → (L' ++ [m]).map (·.v) = (L.take (t + 1)).map (·.v)) := ⟨fun m hm => by
        rw [List.map_append, hmap.out, List.take_succ_eq_append_getElem ht, List.map_append, List.map_cons, List.map_nil, List.map_cons, List.map_nil, hm]⟩
      have hbk := Box.mk hnb
      have hnx : Box (nxt (L.drop (t + 1)) (.pointer none) = .pointer (np.map fun x => ⟨x, 0, none⟩)) := ⟨hnp⟩
      rw [hnp] at hmeas
      clear hnb hu hby hdropq hnp hgood
      generalize L[t] = m at *
      generalize (Option.map (fun x => (⟨x, 0, none⟩ : Addr)) np) = q at *
      have hxw : Ext wr wr := Below.refl _ _
      go_wp2_with (first
        | (go_at_call 48; (with_reducible refine (co.out _ (Ext.trans' hE.out hxw)).mono ?_); rintro e w5 ⟨pa2, pc2, rfl, hO, hb⟩; have hxw := Ext.trans' hxw hb)
        | (go_at_call 47; (with_reducible refine (ca.out _ _ _ hxw hO).mono ?_); rintro e w6 ⟨rfl, m2, hm2, hS6, hO6, hE6, hB6⟩; obtain ⟨n0, n1, n2, n3, n4, n5, n6⟩ := node_cells (show w6.heap[m.at_]? = _ from hB6.trans (Ext.blk hxw hbk.out)); rw [hnx.out] at n6))
      refine ⟨⟨t + 1, L' ++ [m2], by omega, by rw [hnx.out], ⟨hS6⟩, ⟨hmp.out m2 hm2⟩, ⟨hO6⟩, ⟨hE6⟩⟩, ?_⟩
      rcases hmeas.out with e9 | ⟨b9, e9, h8, h9⟩
      · rw [e9]; simp only; omega
      · rw [e9]; simp only; omega
    · obtain rfl : t = L.length := by omega
      rw [List.drop_length]
      simp only [nxt]
      go_wp2
      rw [HP.out]
      refine ⟨L', by rw [HC.out]; rfl, by rw [← HC.out]; exact hS'.out, by rw [hmap.out, List.take_length], hO'.out, hE.out⟩
/-- No value of these events lies in the block. -/
def Avoid (g : Nat) (L : List Nd) : Prop := ∀ m ∈ L, m.u.ownBlock ≠ some g
theorem OwnL.avoid {B : Nat} {w : World} {L : List Nd} (h : OwnL B w L) {g : Nat} (hg : w.heap.size ≤ g) : Avoid g L := fun m hm e => by
  have := ((h m hm).1.lt g e).2
  omega
theorem OwnB.avoid {B : Nat} {w : World} {v : Value} {l : List UInt8} (h : OwnB B w v l) {g : Nat} (hg : g < B) : v.ownBlock ≠ some g := fun e => by
  have := (h.lt g e).1
  omega
theorem Avoid.app {g : Nat} {L : List Nd} {m : Nd} (h : Avoid g L) (h1 : m.u.ownBlock ≠ some g) : Avoid g (L ++ [m]) := fun k hk => by
  rcases List.mem_append.1 hk with hk | hk
  · exact h k hk
  · simp only [List.mem_singleton] at hk; subst hk; exact h1
theorem OwnB.other {B : Nat} {w w' : World} {v : Value} {l : List UInt8} (h : OwnB B w v l) {g : Nat} (hM : Mut (fun j => j = g) w w') (hne : v.ownBlock ≠ some g) : OwnB B w' v l := by
  refine ⟨h.1, ?_⟩
  rcases h.2 with h2 | ⟨b, cap, cur, rfl, hb1, hg, r⟩
  · exact Or.inl h2
  · exact Or.inr ⟨b, cap, cur, rfl, hb1, (hM.other b (blk_lt hg) (fun e => hne (by show some b = some g; rw [e]))).trans hg, r⟩
theorem OwnL.other {B : Nat} {w w' : World} {L : List Nd} (h : OwnL B w L) {g : Nat} (hM : Mut (fun j => j = g) w w') (ha : Avoid g L) : OwnL B w' L := fun m hm => ⟨(h m hm).1.other hM (ha m hm), (h m hm).2⟩
/-- A stream stays whose blocks and values stay. -/
theorem Strm.stay {B : Nat} {w w' : World} {S : Nat} {L : List Nd} {cs : Nat → Nat} {n : Nat} (h : Strm w S L cs n) (hb : ∀ j, Own S L j → w'.heap[j]? = w.heap[j]?) (hO : OwnL B w' L) : Strm w' S L cs n := by
  refine ⟨(hb S (Or.inl rfl)).trans h.hd, ?_, h.up, h.inc⟩
  have : ∀ (K : List Nd) (tl : Value), (∀ m ∈ K, m ∈ L) → Lnk w K tl → Lnk w' K tl := by
    intro K
    induction K with
    | nil => intro _ _ _; trivial
    | cons m r ih =>
      intro tl hs hl
      refine ⟨⟨hl.1.1, (hb _ (Or.inr ⟨m, hs m (by simp), rfl⟩)).trans hl.1.2.1, ?_⟩, ih tl (fun k hk => hs k (by simp [hk])) hl.2⟩
      have h9 := hO m (hs m (by simp))
      exact h9.1.by (by have := h9.2.len; omega)
  exact this L _ (fun _ h => h) h.lk
theorem Strm.types {w : World} {S : Nat} {L : List Nd} {cs : Nat → Nat} {n : Nat} (h : Strm w S L cs n) {j : Nat} (hj : Own S L j) : ∃ cs U, w.heap[j]? = some (.cells cs U (0, 0)) ∧ tS U := by
  rcases hj with rfl | ⟨m, hm, rfl⟩
  · exact ⟨_, _, h.hd, Or.inl rfl⟩
  · obtain ⟨a, ha⟩ := h.lk.at m hm
    exact ⟨_, _, ha.2.1, Or.inr rfl⟩
theorem evs_append (L M : List Nd) : evs (L ++ M) = evs L ++ evs M := List.flatMap_append
theorem evs_drop (M : List Nd) (k : Nat) (hk : k ≤ M.length) : (evs M).drop (k * 6) = evs (M.drop k) := by
  have h := evs_append (M.take k) (M.drop k)
  rw [List.take_append_drop] at h
  rw [h, List.drop_append_of_le_length (by rw [evs_len, List.length_take]; omega)]
  rw [List.drop_of_length_le (by rw [evs_len, List.length_take]; omega)]
  rfl
/-- Between two calls. -/
structure StE (W w : World) (S : Nat) (L : List Nd) (cs : Nat → Nat) (lv : Value) (M : List Nd) : Prop where
  ext : Ext W w
  sge : W.heap.size ≤ S
  strm : Strm w S L cs L.length
  ownL : OwnL W.heap.size w L
  row : SubRow w W.heap.size 28 6 lv M.length (evs M)
  ownM : OwnL W.heap.size w M
section
variable {W w w' : World} {S : Nat} {L M : List Nd} {cs cs' : Nat → Nat} {lv v' : Value}
theorem StE.own (h : StE W w S L cs lv M) : ∀ j, Own S L j → W.heap.size ≤ j := by
  rintro j (rfl | ⟨m, hm, rfl⟩)
  · exact h.sge
  · have h1 := h.strm.up m hm
    have h2 := h.sge
    omega
theorem StE.rowB (h : StE W w S L cs lv M) {T : TypeId → Prop} (hk : Keep T w w') (hT : ¬ T 28) : SubRow w' W.heap.size 28 6 lv M.length (evs M) := h.row.keep fun g e => by
  obtain ⟨_, cs9, hb⟩ := h.row.block e
  exact (hk.same hb hT).trans hb.symm
theorem StE.ext' (h : StE W w S L cs lv M) (hb : Ext w w') : StE W w' S L cs lv M :=
  ⟨Ext.trans' h.ext hb, h.sge, h.strm.ext hb, h.ownL.keep (T := fun _ => False) (Keep.of_ext hb) (fun f => f), h.rowB (T := fun _ => False) (Keep.of_ext hb) (fun f => f), h.ownM.keep (T := fun _ => False) (Keep.of_ext hb) (fun f => f)⟩
theorem StE.add (h : StE W w S L cs lv M) {m : Nd} (h1 : Strm w' S (L ++ [m]) cs' (L.length + 1)) (h2 : OwnB w.heap.size w' m.u m.v.e.val) (h3 : Good m.v) (hM : Mut (Own S L) w w') : StE W w' S (L ++ [m]) cs' lv M := by
  have hk := Keep.strm h.strm hM
  exact ⟨hM.ext W h.ext h.own, h.sge, by rw [List.length_append]; exact h1, (h.ownL.keep hk tS_u8).app (h2.mono h.ext.size) h3, h.rowB hk tS_ev, h.ownM.keep hk tS_u8⟩
theorem StE.push (h : StE W w S L cs lv M) {m : Nd} (hr : SubRow w' W.heap.size 28 6 v' (M.length + 1) (evs M ++ evC m)) (hg : w.grownBy w' lv.ownBlock) (hb : Below W.heap.size w w') (h2 : OwnB W.heap.size w m.u m.v.e.val) (h3 : Good m.v) : StE W w' S L cs v' (M ++ [m]) := by
  have hk : Keep tE w w' := Keep.of_grown hg fun g e => by
    obtain ⟨_, cs9, hb⟩ := h.row.block e
    exact ⟨cs9, _, hb, rfl⟩
  refine ⟨Below.trans h.ext hb, h.sge, h.strm.keepT h.ownL hk tE_st tE_nd tE_u8, h.ownL.keep hk tE_u8, ?_, (h.ownM.keep hk tE_u8).app (h2.keep hk tE_u8) h3⟩
  rw [List.length_append, evs_append]
  have : evs [m] = evC m := by simp [evs]
  rw [this]
  exact hr
theorem StE.byte (h : StE W w S L cs lv M) {g : Nat} (hM : Mut (fun j => j = g) w w') (hu : ∃ cs9, w.heap[g]? = some (.cells cs9 5 (0, 0))) (aL : Avoid g L) (aM : Avoid g M) (hg : W.heap.size ≤ g) : StE W w' S L cs lv M := by
  obtain ⟨cs9, hgb⟩ := hu
  have hO := h.ownL.other hM aL
  refine ⟨hM.ext W h.ext (fun x e => by rw [e]; exact hg), h.sge, h.strm.stay (fun j hj => ?_) hO, hO, h.row.keep (fun b e => ?_), h.ownM.other hM aM⟩
  · obtain ⟨c2, U, hb, hU⟩ := h.strm.types hj
    refine hM.other j (blk_lt hb) (fun e => ?_)
    subst e
    rw [hgb] at hb
    cases hb
    exact tS_u8 hU
  · obtain ⟨_, c2, hb⟩ := h.row.block e
    refine hM.other b (blk_lt hb) (fun e => ?_)
    subst e
    rw [hgb] at hb
    simp only [Option.some.injEq, Obj.cells.injEq] at hb
    exact absurd hb.2.1 (by decide)
theorem Mut.of_grown {g : Nat} (h : w.grownBy w' (some g)) : Mut (fun j => j = g) w w' :=
  ⟨h.size, fun j hj hne => h.block j hj (fun e => hne (by simpa using e)), fun w0 h0 h1 => Below.grown h0 h h0.size (fun k hk => by
    simp only [Option.some.injEq] at hk
    subst hk
    exact h1 _ rfl)⟩
/-- The bytes of a slice of one's own change. -/
theorem StE.bytes (h : StE W w S L cs lv M) {B : Nat} {u : Value} {l : List UInt8} (ho : OwnB B w u l) (hB : W.heap.size ≤ B) (hg : w.grownBy w' u.ownBlock) (aL : ∀ g, u.ownBlock = some g → Avoid g L ∧ Avoid g M) : StE W w' S L cs lv M := by
  rcases ho.2 with ⟨rfl, _⟩ | ⟨g, cap, cur, rfl, hbg, hgb, _⟩
  · exact h.ext' (Below.grown (Below.refl _ _) hg (Nat.le_refl _) (fun k hk => by cases hk))
  · obtain ⟨h1, h2⟩ := aL g rfl
    exact h.byte (Mut.of_grown hg) ⟨_, hgb⟩ h1 h2 (Nat.le_trans hB hbg)
theorem StE.take (h : StE W w S L cs lv M) {t : Nat} (ht : t ≤ L.length) (h1 : Strm w' S (L.drop t) cs (L.length - t)) (hM : Mut (fun j => j = S) w w') : StE W w' S (L.drop t) cs lv M := by
  have hk := Keep.strm1 h.strm hM
  exact ⟨hM.ext W h.ext (fun x e => by rw [e]; exact h.sge), h.sge, by rw [List.length_drop]; exact h1, (h.ownL.keep hk tS_u8).drop t, h.rowB hk tS_ev, h.ownM.keep hk tS_u8⟩
theorem StE.from (h : StE W w S L cs lv M) {k : Nat} (hk : k ≤ M.length) (hr : SubRow w W.heap.size 28 6 v' (M.length - k) ((evs M).drop (k * 6))) : StE W w S L cs v' (M.drop k) :=
  ⟨h.ext, h.sge, h.strm, h.ownL, by rw [List.length_drop, ← evs_drop M k hk]; exact hr, h.ownM.drop k⟩
theorem StE.copy (h : StE W w S L cs lv M) {L' : List Nd} (h1 : Strm w' w.heap.size L' cs L.length) (h2 : L'.map (·.v) = L.map (·.v)) (h3 : ∀ m ∈ L', OwnB w.heap.size w' m.u m.v.e.val) (hx : Ext w w') : StE W w' w.heap.size L' cs lv M := by
  have hl : L'.length = L.length := by
    have := congrArg List.length h2
    simpa using this
  have h9 := h.ext' hx
  refine ⟨h9.ext, h.ext.size, by rw [hl]; exact h1, fun m hm => ⟨(h3 m hm).mono h.ext.size, ?_⟩, h9.row, h9.ownM⟩
  have : m.v ∈ L.map (·.v) := by rw [← h2]; exact List.mem_map.2 ⟨m, hm, rfl⟩
  obtain ⟨k, hk, e⟩ := List.mem_map.1 this
  rw [← e]
  exact (h.ownL k hk).2
/-- Another stream's blocks change. -/
theorem StE.apart (h : StE W w S L cs lv M) {X : Nat → Prop} (hM : Mut X w w') (hX : ∀ j, X j → W.heap.size ≤ j ∧ j < S ∧ ∃ c2 U, w.heap[j]? = some (.cells c2 U (0, 0)) ∧ tS U) : StE W w' S L cs lv M := by
  have hk : Keep tS w w' := Keep.of_mut hM fun j hj => (hX j hj).2.2
  have hO := h.ownL.keep hk tS_u8
  refine ⟨hM.ext W h.ext (fun x hx => (hX x hx).1), h.sge, h.strm.stay (fun j hj => ?_) hO, hO, h.rowB hk tS_ev, h.ownM.keep hk tS_u8⟩
  obtain ⟨c2, U, hb, hU⟩ := h.strm.types hj
  refine hM.other j (blk_lt hb) (fun hx => ?_)
  have h1 := (hX j hx).2.1
  rcases hj with rfl | ⟨m, hm, rfl⟩
  · omega
  · have h2 := h.strm.up m hm
    omega
end
open Go.Lib
section
variable {α : Type} (f : α → List Value) (K : Nat) (hf : ∀ x, (f x).length = K)
def rows (L : List α) : List Value := L.flatMap f
include hf in
theorem rows_len (L : List α) : (rows f L).length = K * L.length := by
  induction L with
  | nil => rfl
  | cons m r ih =>
    show (f m ++ rows f r).length = _
    rw [List.length_append, ih, hf, List.length_cons, Nat.mul_add, Nat.mul_one, Nat.add_comm]
include hf in
theorem rows_at (L : List α) (i j : Nat) (hi : i < L.length) (hj : j < K) : (rows f L)[K * i + j]? = (f L[i])[j]? := by
  induction L generalizing i with
  | nil => simp at hi
  | cons m r ih =>
    show (f m ++ rows f r)[K * i + j]? = _
    cases i with
    | zero =>
      rw [List.getElem?_append_left (by rw [hf]; simpa using hj)]
      simp
    | succ i =>
      have e0 : K * (i + 1) = K * i + K := by rw [Nat.mul_add, Nat.mul_one]
      rw [List.getElem?_append_right (by rw [hf]; omega)]
      have e : K * (i + 1) + j - (f m).length = K * i + j := by rw [hf]; omega
      rw [e, ih i (by simpa using hi)]
      rfl
include hf in
theorem rows_row {w : World} {a : Option Addr} {L : List α} (hK : 0 < K) (hc : CellsAt w a (rows f L)) (i : Nat) (hi : i < L.length) : ∃ b o, a = some ⟨b, o, none⟩ ∧
    ∀ j u, (f L[i])[j]? = some u → w.cell? ⟨b, o + i * K + j, none⟩ = some u := by
  have h00 : 0 < (f L[i]).length := by rw [hf]; exact hK
  obtain ⟨b, o, ha, h0⟩ := hc (K * i + 0) _ ((rows_at f K hf L i 0 hi hK).trans (List.getElem?_eq_getElem h00))
  refine ⟨b, o, ha, fun j u hu => ?_⟩
  have hj : j < K := by have := (List.getElem?_eq_some_iff.1 hu).1; rwa [hf] at this
  obtain ⟨b', o', ha', h'⟩ := hc (K * i + j) u ((rows_at f K hf L i j hi hj).trans hu)
  rw [ha] at ha'
  cases ha'
  rw [Nat.mul_comm i K, Nat.add_assoc]
  exact h'
/-- A slice of elements that came in. -/
def RowsArg (Q : α → Prop) (W : World) (v : Value) (L : List α) : Prop :=
  ∃ a c, v = .slice a L.length c ∧ L.length ≤ c ∧ c ≤ 9223372036854775807 ∧ CellsAt W a (rows f L) ∧ ∀ x ∈ L, Q x
include hf in
theorem rows_range (hK : 0 < K) (n : Nat) (q : Nat → α) (w : World) (a : Addr) (h : ∀ i, i < n → ∀ j u, (f (q i))[j]? = some u → w.cell? (a.add (i * K + j)) = some u) :
    ∀ j u, (rows f ((List.range n).map q))[j]? = some u → w.cell? (a.add j) = some u := by
  intro j u hj
  have hlt : j < K * n := by
    have := (List.getElem?_eq_some_iff.1 hj).1
    rw [rows_len f K hf] at this
    simpa using this
  have hd : K * (j / K) + j % K = j := Nat.div_add_mod j K
  have hi0 : j / K < n := Nat.div_lt_of_lt_mul hlt
  have hi : j / K < ((List.range n).map q).length := by simpa using hi0
  have := rows_at f K hf ((List.range n).map q) (j / K) (j % K) hi (Nat.mod_lt _ hK)
  rw [hd, hj] at this
  have h2 := h (j / K) hi0 (j % K) u (by rw [this]; simp)
  rw [Nat.mul_comm, hd] at h2
  exact h2
include hf in
theorem open_rows [Inhabited α] {P : Program} {H : Type} {enc : TypeId × Value → H} {ts t : TypeId} {base : Nat} {W : World} {v : Value} {d : DataW H} {p : List MemPlace} (Q : α → Prop) (hK : 0 < K)
    (ht : P.underlying ts = some (.slice t)) (hC : P.cellsOf t = K)
    (hel : ∀ (b0 : Nat) (sp : Nat → Bool) (held : Bool) (cs : List Value) (n : Nat) (y : DataW H × List MemPlace), DataW.trod enc P W b0 sp held n t cs = some y → cs.length = K → ∃ x, cs = f x ∧ Q x)
    (ho : Value.okWide P W .any base ts v) (h : DataW.Trod enc P W 0 (fun _ => true) true ts v d p) : ∃ L, RowsArg f Q W v L := by
  obtain ⟨a0, len0, cap0, rfl⟩ := WideShapes.okWide_slice ht ho
  obtain ⟨fuel, hfu⟩ := h
  rcases Deep.open_slice ht hfu with ⟨hcs, _⟩ | ⟨a, len, cap, m, n, D, Pl, hcs, _, hl, hm, hmm, _, hx⟩
  · simp [Value.cells] at hcs
    obtain ⟨rfl, rfl, rfl⟩ := hcs
    exact ⟨[], none, 0, rfl, Nat.le_refl _, by decide, fun j u hj => by simp [rows] at hj, fun x hx => by cases hx⟩
  · simp [Value.cells] at hcs
    obtain ⟨rfl, rfl, rfl⟩ := hcs
    have hlm : len0 ≤ m := by rw [hmm]; simp only; split <;> omega
    have each : ∀ i, i < len0 → ∃ x : α, Q x ∧ ∀ j u, (f x)[j]? = some u → W.cell? (a.add (i * K + j)) = some u := by
      intro i hi
      obtain ⟨cs', g1, g2⟩ := hx i (by omega)
      rw [hC] at g1
      obtain ⟨_, hlen, hcell⟩ := World.cells?_some g1
      obtain ⟨x, rfl, hw⟩ := hel _ _ _ _ _ _ g2 hlen
      refine ⟨x, hw, fun j u hj => ?_⟩
      have hj6 : j < K := by have := (List.getElem?_eq_some_iff.1 hj).1; rwa [hf] at this
      have := hcell j hj6
      rw [Deep.add_add, hj] at this
      exact this
    obtain ⟨q, hq⟩ := Deep.choose_lt each
    refine ⟨(List.range len0).map q, some a, cap0, by simp, by simpa using hl, by unfold maxLen at hm; omega, cellsAt_of (rows_range f K hf hK len0 q W a fun i hi => (hq i hi).2), ?_⟩
    intro x hx
    obtain ⟨i, hi, rfl⟩ := List.mem_map.1 hx
    exact (hq i (by simpa using hi)).1
end
theorem RowsArg.ext {α : Type} {f : α → List Value} {Q : α → Prop} {W W' : World} {v : Value} {L : List α} (h : RowsArg f Q W v L) (hb : Ext W W') : RowsArg f Q W' v L := by
  obtain ⟨a, c, h1, h2, h3, h4, h5⟩ := h
  exact ⟨a, c, h1, h2, h3, h4.ext hb, h5⟩
/-- the fields of a struct, as parts of its cells -/
theorem fields_at {P : Program} {H : Type} {enc : TypeId × Value → H} {t : TypeId} {fs : Array Field} {base : Nat} {W : World} {cs : List Value} {y : DataW H × List MemPlace} {fuel : Nat} {sp : Nat → Bool} {held : Bool}
    (hs : P.underlying t = some (.struct fs)) (h : DataW.trod enc P W base sp held fuel t cs = some y) :
    ∀ (i : Nat) (f : Field), fs[i]? = some f → ∃ z n, DataW.trod enc P W base sp held n f.type ((cs.drop f.offset).take (P.cellsOf f.type)) = some z := by
  obtain ⟨xs, n, _, _, hl, hxl, hall⟩ := DataW.trod_struct hs h
  intro i f hi
  have h1 := hall i f hi
  have hif : i < fs.size := (Array.getElem?_eq_some_iff.1 hi).1
  obtain ⟨b, hb⟩ : ∃ b, xs[i]? = some b := ⟨xs[i]'(by omega), List.getElem?_eq_getElem (by omega)⟩
  rw [hb] at h1
  exact ⟨b, n, h1⟩
theorem ints_any {P : Program} {H : Type} {enc : TypeId × Value → H} {t e : TypeId} {k : IntKind} {W : World} {base : Nat} {sp : Nat → Bool} {held : Bool} {v : Value} {x : DataW H × List MemPlace} {fuel : Nat}
    (ht : P.underlying t = some (.slice e)) (he : P.underlying e = some (.int k)) (hc : P.cellsOf e = 1)
    (hf : DataW.trod enc P W base sp held fuel t [v] = some x) : IntsArg k W v := by
  rcases ChangeShapes.open_ints ht he hc hf with ⟨hcs, _⟩ | ⟨x, len0, cap0, zs, hcs, _, hl, hm, hz, _, hcell, hwz⟩
  · simp at hcs
    subst hcs
    exact ⟨none, 0, 0, [], rfl, rfl, Nat.le_refl _, by decide, by simp, fun j u hj => by simp at hj⟩
  · simp at hcs
    subst hcs
    have hz' : len0 ≤ zs.length := by rw [hz]; split <;> omega
    refine ⟨some x, len0, cap0, zs.take len0, rfl, by simp; omega, hl, by unfold maxLen at hm; omega, fun z hzm => hwz z (List.mem_of_mem_take hzm), cellsAt_of fun j u hj => ?_⟩
    have hj' : j < len0 ∧ j < zs.length := by
      have := (List.getElem?_eq_some_iff.1 hj).1; simp at this; omega
    have e := hcell j hj'.2
    rw [e]
    simp only [List.getElem?_map, List.getElem?_take, hj'.1, if_true, List.getElem?_eq_getElem hj'.2, Option.map_some] at hj
    rw [← hj, List.getD_eq_getElem?_getD, List.getElem?_eq_getElem hj'.2]; rfl
theorem fld {P : Program} {H : Type} {enc : TypeId × Value → H} {t : TypeId} {fs : Array Field} {base : Nat} {W : World} {cs : List Value} {y : DataW H × List MemPlace} {fuel : Nat} {sp : Nat → Bool} {held : Bool}
    (hs : P.underlying t = some (.struct fs)) (h : DataW.trod enc P W base sp held fuel t cs = some y) (i o k : Nat) (T : TypeId) (hi : (fs[i]?).map (fun f => (f.offset, f.type)) = some (o, T)) (hk : P.cellsOf T = k) :
    ∃ z n, DataW.trod enc P W base sp held n T ((cs.drop o).take k) = some z := by
  obtain ⟨f, hf, e⟩ := Option.map_eq_some_iff.1 hi
  simp only [Prod.mk.injEq] at e
  obtain ⟨rfl, rfl⟩ := e
  subst hk
  exact fields_at hs h i f hf
/-- A call: what, a number, an event. -/
structure ActI where
  w : Int
  n : Int
  x : EvI
instance : Inhabited ActI := ⟨⟨0, 0, default⟩⟩
def aC (y : ActI) : List Value := [.int .i64 y.w, .int .i64 y.n, .int .i64 y.x.k, .string y.x.s, y.x.u, .int .u64 y.x.b, .int .u64 y.x.d, .int .u64 y.x.t]
theorem aC_len (y : ActI) : (aC y).length = 8 := rfl
structure ActI.Wf (W : World) (y : ActI) : Prop where
  n : -9223372036854775808 ≤ y.n ∧ y.n ≤ 9223372036854775807
  x : y.x.Wf W
theorem kAct : Tryd.prog.cellsOf 59 = 8 := by kernel_rfl
theorem kEvK : Tryd.prog.cellsOf 23 = 1 := by kernel_rfl
theorem kStr : Tryd.prog.cellsOf 9 = 1 := by kernel_rfl
theorem kByt : Tryd.prog.cellsOf 24 = 1 := by kernel_rfl
theorem kU8 : Tryd.prog.cellsOf 5 = 1 := by kernel_rfl
theorem kU64 : Tryd.prog.cellsOf 25 = 1 := by kernel_rfl
theorem kTim : Tryd.prog.cellsOf 26 = 1 := by kernel_rfl
theorem kInt : Tryd.prog.cellsOf 3 = 1 := by kernel_rfl
theorem kEv : Tryd.prog.cellsOf 28 = 6 := by kernel_rfl
theorem list8 {α : Type} {l : List α} (h : l.length = 8) : ∃ a b c d e f g i, l = [a, b, c, d, e, f, g, i] :=
  match l, h with
  | [a, b, c, d, e, f, g, i], _ => ⟨a, b, c, d, e, f, g, i, rfl⟩
set_option maxRecDepth 100000 in
theorem act_of_trod {H : Type} {enc : TypeId × Value → H} {base : Nat} {sp : Nat → Bool} {held : Bool} {W : World} {n : Nat} {y : DataW H × List MemPlace} (cs : List Value) (h : DataW.trod enc Tryd.prog W base sp held n 59 cs = some y) (hl : cs.length = 8) : ∃ x, cs = aC x ∧ ActI.Wf W x := by
  have hs := Tryd.underlying59
  have he := Tryd.underlying28
  obtain ⟨_, _, t0⟩ := fld hs h 0 0 1 3 rfl kInt
  obtain ⟨_, _, t1⟩ := fld hs h 1 1 1 3 rfl kInt
  obtain ⟨_, _, tE⟩ := fld hs h 2 2 6 28 rfl kEv
  obtain ⟨_, _, t2⟩ := fld he tE 0 0 1 23 rfl kEvK
  obtain ⟨_, _, t3⟩ := fld he tE 1 1 1 9 rfl kStr
  obtain ⟨_, _, t4⟩ := fld he tE 2 2 1 24 rfl kByt
  obtain ⟨_, _, t5⟩ := fld he tE 3 3 1 25 rfl kU64
  obtain ⟨_, _, t6⟩ := fld he tE 4 4 1 26 rfl kTim
  obtain ⟨_, _, t7⟩ := fld he tE 5 5 1 26 rfl kTim
  obtain ⟨c0, c1, c2, c3, c4, c5, c6, c7, rfl⟩ := list8 hl
  simp only [List.drop_zero, List.drop_succ_cons, List.take_succ_cons, List.take_zero, List.take_nil] at t0 t1 t2 t3 t4 t5 t6 t7
  obtain ⟨x0, e0, _, w0⟩ := DataW.trod_int Tryd.underlying3 t0
  obtain ⟨x1, e1, _, w1⟩ := DataW.trod_int Tryd.underlying3 t1
  obtain ⟨x2, e2, _, w2⟩ := DataW.trod_int Tryd.underlying23 t2
  obtain ⟨x3, e3, _, w3⟩ := DataW.trod_string Tryd.underlying9 t3
  obtain ⟨x5, e5, _, w5⟩ := DataW.trod_int Tryd.underlying25 t5
  obtain ⟨x6, e6, _, w6⟩ := DataW.trod_int Tryd.underlying26 t6
  obtain ⟨x7, e7, _, w7⟩ := DataW.trod_int Tryd.underlying26 t7
  have hu := ints_any Tryd.underlying24 Tryd.underlying5 kU8 t4
  simp at e0 e1 e2 e3 e5 e6 e7
  subst e0 e1 e2 e3 e5 e6 e7
  unfold maxLen at w3
  obtain ⟨m5, rfl, h5⟩ := nat_of_u64 w5
  obtain ⟨m6, rfl, h6⟩ := nat_of_u64 w6
  obtain ⟨m7, rfl, h7⟩ := nat_of_u64 w7
  have hk := wf_i64 w2
  have hn := wf_i64 w1
  exact ⟨⟨x0, x1, ⟨x2, x3, c4, m5, m6, m7⟩⟩, rfl, ⟨by show _ ≤ x1; omega, by show x1 ≤ _; omega⟩, ⟨⟨by show _ ≤ x2; omega, by show x2 ≤ _; omega⟩, w3, hu, h5, h6, h7⟩⟩
abbrev ActsArg (W : World) (v : Value) (L : List ActI) : Prop := RowsArg aC (ActI.Wf W) W v L
set_option maxRecDepth 100000 in
theorem open_acts {H : Type} {enc : TypeId × Value → H} {base : Nat} {W : World} {v : Value} {d : DataW H} {p : List MemPlace}
    (ho : Value.okWide Tryd.prog W .any base 56 v) (h : DataW.Trod enc Tryd.prog W 0 (fun _ => true) true 56 v d p) : ∃ L, ActsArg W v L :=
  open_rows aC 8 aC_len (ActI.Wf W) (by decide) Tryd.underlying56 kAct (fun _ _ _ cs n y hh hl => act_of_trod cs hh hl) ho h
theorem step_append_run {P : Program} {w : World} {ops : Array Oper} {o : Oper} {a : Act} {K : Act → World → Prop} {Q : Exit → Act → World → Prop} {E : Prop} (hgd : o.guard = none) (s x : Operand) (t : TypeId)
    (ho : o.op = .call { callee := .builtin .append, args := #[s, x], argTypes := #[t, t] }) (v u v' : Value) (w' : World) (hs : a.eval s = v) (hx : a.eval x = u)
    (hrun : (Builtin.append_ #[t, t] o.type #[v, u]).run P w = .ok v' w') (h : K (a.put o.dst v') w') :
    if Region.wanted o (yielded ops a.tmps) = true then Oper.wp P o a w K Q else E := by
  have hw : Region.wanted o (yielded ops a.tmps) = true := by simp [Region.wanted, hgd]
  rw [if_pos hw]
  unfold Oper.wp execOp
  simp only [ho, resolve, invoke, builtin, Sem.run_bind, Sem.run_pure, Result.andThen_ok, List.map_toArray, List.map_cons, List.map_nil, hs, hx, hrun]
  exact h
/-- The law's own counts. -/
def cnC (cs : Nat → Nat) : Array Value := #[.int .u64 0, .int .u64 (cs 1), .int .u64 (cs 2), .int .u64 (cs 3), .int .u64 (cs 4), .int .u64 (cs 5), .int .u64 0]
theorem cnC_bump (cs : Nat → Nat) (j : Nat) (h1 : 1 ≤ j) (h5 : j ≤ 5) : (cnC cs).setIfInBounds j (.int .u64 ((cs j : Int) + 1)) = cnC (bump cs j) := by
  obtain rfl | rfl | rfl | rfl | rfl := k5 j h1 h5
  all_goals simp [cnC, bump]
theorem cnC_get (cs : Nat → Nat) (j : Nat) (h1 : 1 ≤ j) (h5 : j ≤ 5) : (cnC cs)[j]? = some (.int .u64 (cs j : Nat)) := by
  obtain rfl | rfl | rfl | rfl | rfl := k5 j h1 h5
  all_goals rfl
theorem bump_le {cs : Nat → Nat} {t : Nat} (h : ∀ k, cs k ≤ t) (j k : Nat) : bump cs j k ≤ t + 1 := by
  have := h k
  unfold bump
  split <;> omega
def tC (U : TypeId) : Prop := U = 57
theorem tC_u8 : ¬ tC 5 := by unfold tC; decide
theorem tC_ev : ¬ tC 28 := by unfold tC; decide
theorem tC_st : ¬ tC 69 := by unfold tC; decide
theorem tC_nd : ¬ tC 92 := by unfold tC; decide
section
variable {W w w' : World} {S : Nat} {L M : List Nd} {cs cs' : Nat → Nat} {lv v' : Value}
/-- The counts' block changes. -/
theorem StE.kput (h : StE W w S L cs lv M) {K : Nat} {cs9 : Array Value} (hM : Mut (fun j => j = K) w w') (hK : w.heap[K]? = some (.cells cs9 57 (0, 0))) (hW : W.heap.size ≤ K) : StE W w' S L cs lv M := by
  have hk : Keep tC w w' := Keep.of_mut hM fun j e => by subst e; exact ⟨_, _, hK, rfl⟩
  refine ⟨hM.ext W h.ext (fun x e => by rw [e]; exact hW), h.sge, h.strm.stay (fun j hj => ?_) (h.ownL.keep hk tC_u8), h.ownL.keep hk tC_u8, h.rowB hk tC_ev, h.ownM.keep hk tC_u8⟩
  obtain ⟨c2, U, hb, hU⟩ := h.strm.types hj
  refine hM.other j (blk_lt hb) (fun e => ?_)
  subst e
  rw [hK] at hb
  cases hb
  exact tS_cnt' hU
where
  tS_cnt' : ¬ tS 57 := by unfold tS; decide
theorem bs_self (s : ByteArray) : bs s.data.toList = s := by apply ByteArray.ext; exact Array.ext' rfl
/-- One event more behind the list: the run of append, and what it leaves. -/
theorem StE.more {w8 w9 : World} {a5 : Option Addr} {c5 : Nat} (h : StE W w8 S L cs (.slice a5 M.length c5) M) (hx : Ext w8 w9) (hM : M.length ≤ 1000) {j : Nat} {s : ByteArray} {l : List UInt8} {bi de at_ : Nat} {a2 : Option Addr} {c2 : Nat}
    (ho : OwnB w8.heap.size w9 (.slice a2 l.length c2) l) (hg : Good ⟨j, ⟨s.data.toList, l, de, bi⟩, at_⟩) :
    ∃ (a4 : Option Addr) (c4 : Nat) (w4 : World), (Builtin.append_ #[41, 41] 41 #[.slice a5 M.length c5, .slice (some ⟨w9.heap.size, 0, none⟩) 1 1]).run Tryd.prog (w9.alloc (.cells #[.int .i64 (j : Nat), .string s, .slice a2 l.length c2, .int .u64 bi, .int .u64 de, .int .u64 at_] 28)) = .ok (.slice a4 (M.length + 1) c4) w4 ∧
      StE W w4 S L cs (.slice a4 (M.length + 1) c4) (M ++ [⟨0, .slice a2 l.length c2, ⟨j, ⟨s.data.toList, l, de, bi⟩, at_⟩⟩]) ∧ Keep tE w9 w4 ∧ ∀ B, B < w9.heap.size → Value.ownBlock (.slice a5 M.length c5) ≠ some B → w4.heap[B]? = w9.heap[B]? := by
  obtain ⟨i0, hi, hz0, hz1, hz2⟩ := info_parts infoEvt
  have h9 := h.ext' (Ext.alloc hx (.cells #[.int .i64 (j : Nat), .string s, .slice a2 l.length c2, .int .u64 bi, .int .u64 de, .int .u64 at_] 28))
  obtain ⟨v', w4, r1, r2, r3, r4⟩ := SubRow.push (P := Tryd.prog) (t := 41) (ty := 41) Tryd.underlying41 hi hz0 hz1 hz2 rfl h9.row ⟨w9.heap.size, 0, none⟩ 1 [.int .i64 (j : Nat), .string s, .slice a2 l.length c2, .int .u64 bi, .int .u64 de, .int .u64 at_] rfl (cells_new w9 _ _) (by simp [Value.oneCell']) (by omega) (by omega) h9.ext.size
  obtain ⟨a4, c4, rfl⟩ := r2.form
  have hsz : (w9.alloc (.cells #[.int .i64 (j : Nat), .string s, .slice a2 l.length c2, .int .u64 bi, .int .u64 de, .int .u64 at_] 28)).heap.size = w9.heap.size + 1 := by simp
  have hev : evC ⟨0, .slice a2 l.length c2, ⟨j, ⟨s.data.toList, l, de, bi⟩, at_⟩⟩ = [.int .i64 (j : Nat), .string s, .slice a2 l.length c2, .int .u64 bi, .int .u64 de, .int .u64 at_] := by
    unfold evC
    simp only [bs_self]
  refine ⟨a4, c4, w4, r1, h9.push (m := ⟨0, .slice a2 l.length c2, ⟨j, ⟨s.data.toList, l, de, bi⟩, at_⟩⟩) (by rw [hev]; exact r2) r3 (Below.grown (Below.refl _ _) r3 h9.ext.size (fun k hk => (h9.row.block hk).1)) ?_ hg, ?_, fun B hB hne => ?_⟩
  · exact (OwnB.ext ho (Ext.alloc (Below.refl _ _) _)).mono h.ext.size
  · refine Keep.trans (Keep.of_ext (Ext.alloc (Below.refl _ w9) _)) (Keep.of_grown r3 fun g e => ?_)
    obtain ⟨_, cs9, hb⟩ := h9.row.block e
    exact ⟨cs9, _, hb, rfl⟩
  · exact (r3.block B (by rw [hsz]; omega) (fun e => hne e.symm)).trans (heap_alloc_old w9 _ hB)
theorem fin0 {w4 w8 w9 : World} {Lz M2 : List Nd} {csz : Nat → Nat} {lv lv4 u u2 : Value} {l : List UInt8} {K G j B3 : Nat} {cG : Array Value} {T : TypeId} (hE4 : StE W w4 S Lz csz lv4 M2) (hkE : Keep tE w9 w4) (hob : ∀ B, B < w9.heap.size → lv.ownBlock ≠ some B → w4.heap[B]? = w9.heap[B]?) (hx9 : Ext w8 w9)
    (hK8 : w8.heap[K]? = some (.cells (cnC cs) 57 (0, 0))) (hG8 : w8.heap[G]? = some (.cells cG T (0, 0))) (hO9 : OwnB w8.heap.size w9 u2 l) (hO8 : OwnB B3 w8 u l) (hrG : lv.ownBlock ≠ some G) (hrK : lv.ownBlock ≠ some K) (hKW : W.heap.size ≤ K) (hKG : K ≠ G) (h1 : 1 ≤ j) (h5 : j ≤ 5) :
    StE W (w4.setCell ⟨K, j, none⟩ (.int .u64 ((cs j : Int) + 1))) S Lz csz lv4 M2 ∧ OwnB w8.heap.size (w4.setCell ⟨K, j, none⟩ (.int .u64 ((cs j : Int) + 1))) u2 l ∧ (w4.setCell ⟨K, j, none⟩ (.int .u64 ((cs j : Int) + 1))).heap[K]? = some (.cells (cnC (bump cs j)) 57 (0, 0)) ∧
    (w4.setCell ⟨K, j, none⟩ (.int .u64 ((cs j : Int) + 1))).heap[G]? = some (.cells cG T (0, 0)) ∧ OwnB B3 (w4.setCell ⟨K, j, none⟩ (.int .u64 ((cs j : Int) + 1))) u l ∧ w4.heap[K]? = some (.cells (cnC cs) 57 (0, 0)) ∧ w4.heap[G]? = some (.cells cG T (0, 0)) := by
  have hK9 := Ext.blk hx9 hK8
  have hG9 := Ext.blk hx9 hG8
  have hK4 := (hob K (blk_lt hK9) hrK).trans hK9
  have hG4 := (hob G (blk_lt hG9) hrG).trans hG9
  have hM : Mut (fun x => x = K) w4 (w4.setCell ⟨K, j, none⟩ (.int .u64 ((cs j : Int) + 1))) := Mut.put w4 ⟨K, j, none⟩ _ rfl
  have hk : Keep tC w4 (w4.setCell ⟨K, j, none⟩ (.int .u64 ((cs j : Int) + 1))) := Keep.of_mut hM fun x e => by subst e; exact ⟨_, _, hK4, rfl⟩
  refine ⟨hE4.kput hM hK4 hKW, (hO9.keep hkE tE_u8).keep hk tC_u8, ?_, (hM.other G (blk_lt hG4) (fun e => hKG e.symm)).trans hG4, ((hO8.ext hx9).keep hkE tE_u8).keep hk tC_u8, hK4, hG4⟩
  rw [heap_setCell_same w4 K j _ _ _ hK4, cnC_bump cs j h1 h5]
theorem keepd {W1 : World} {B o : Nat} {v : Value} (h : W1.cell? ⟨B, o, none⟩ = some v) : W1.drew.cell? ⟨B, o, none⟩ = some v := h
theorem keepa {W1 : World} {o1 : Obj} {B o : Nat} {v : Value} (h : W1.cell? ⟨B, o, none⟩ = some v) : (W1.alloc o1).cell? ⟨B, o, none⟩ = some v := Ext.cell (Ext.alloc (Below.refl _ W1) o1) h
theorem keeps {W1 : World} {K j B o : Nat} {v u : Value} (hne : K ≠ B) (h : W1.cell? ⟨B, o, none⟩ = some v) : (W1.setCell ⟨K, j, none⟩ u).cell? ⟨B, o, none⟩ = some v := (World.cell?_setCell_far W1 ⟨K, j, none⟩ ⟨B, o, none⟩ u hne).trans h
end
end Go.Proofs.YtapngkjgagapeaaDoor
