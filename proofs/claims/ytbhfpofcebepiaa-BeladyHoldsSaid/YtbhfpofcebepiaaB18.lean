import Derived.Test.YtbhfpofcebepiaaB17
import Derived.Deep.AppendSrc
import Derived.Lib.SliceRun
import Derived.Deep.RegionLaw
/- The contract of slices.Delete on a list of places of one's own: one place leaves. -/
namespace Go.Proofs.Ytbhfpofcebepiaa
open Go.RowKit
theorem step_append_run {P : Program} {w : World} {ops : Array Oper} {o : Oper} {a : Act} {K : Act → World → Prop} {Q : Exit → Act → World → Prop} {E : Prop} (hgd : o.guard = none) (s x : Operand) (t : TypeId)
    (ho : o.op = .call { callee := .builtin .append, args := #[s, x], argTypes := #[t, t] }) (v u v' : Value) (w' : World) (hs : a.eval s = v) (hx : a.eval x = u)
    (hrun : (Builtin.append_ #[t, t] o.type #[v, u]).run P w = .ok v' w') (h : K (a.put o.dst v') w') :
    if Region.wanted o (yielded ops a.tmps) = true then Oper.wp P o a w K Q else E := by
  have hw : Region.wanted o (yielded ops a.tmps) = true := by simp [Region.wanted, hgd]
  rw [if_pos hw]
  unfold Oper.wp execOp
  simp only [ho, resolve, invoke, builtin, Sem.run_bind, Sem.run_pure, Result.andThen_ok, List.map_toArray, List.map_cons, List.map_nil, hs, hx, hrun]
  exact h
theorem infoPl : (Try.prog.info? 65).map (fun i => (i.zero, i.size, i.bytes)) = some (some (.agg #[.int .u32 0, .int .i64 0]), 2, 16) := by kernel_rfl
theorem setCells_heap {g : Nat} {T : TypeId} : ∀ (vs : List Value) (o : Nat) (cs : List Value) (w : World), w.heap[g]? = some (.cells cs.toArray T (0, 0)) → o + vs.length ≤ cs.length →
    (w.setCells g o vs).heap[g]? = some (.cells (cs.take o ++ vs ++ cs.drop (o + vs.length)).toArray T (0, 0)) ∧ (∀ k, k ≠ g → (w.setCells g o vs).heap[k]? = w.heap[k]?) ∧ (w.setCells g o vs).heap.size = w.heap.size ∧ (w.setCells g o vs).os = w.os ∧ (w.setCells g o vs).tape = w.tape ∧ (w.setCells g o vs).output = w.output
  | [], o, cs, w, h, _ => by
    refine ⟨?_, fun _ _ => rfl, rfl, rfl, rfl, rfl⟩
    show w.heap[g]? = _
    rw [h]
    simp
  | v :: vs, o, cs, w, h, hl => by
    rw [List.length_cons] at hl
    have h1 := heap_setCell_same w g o _ _ v h
    rw [List.setIfInBounds_toArray] at h1
    obtain ⟨q1, q2, q3, q4, q5, q6⟩ := setCells_heap vs (o + 1) (cs.set o v) (w.setCell ⟨g, o, none⟩ v) h1 (by rw [List.length_set]; omega)
    refine ⟨?_, fun k hk => ?_, q3.trans (by simp), q4, q5, q6⟩
    · show ((w.setCell ⟨g, o, none⟩ v).setCells g (o + 1) vs).heap[g]? = _
      rw [q1]
      congr 2
      apply congrArg
      have ho : o < cs.length := by omega
      apply List.ext_getElem?
      intro j
      rw [List.length_cons]
      simp only [List.getElem?_append, List.length_append, List.length_take, List.length_set, List.length_cons, List.getElem?_take, List.getElem?_drop, List.getElem?_set, List.getElem?_cons]
      have hm1 : min (o + 1) cs.length = o + 1 := by omega
      have hm2 : min o cs.length = o := by omega
      rw [hm1, hm2]
      by_cases h1 : j < o
      · simp [h1, show j < o + 1 by omega, show j < o + 1 + vs.length by omega, show j < o + (vs.length + 1) by omega, show ¬ o = j by omega]
      · by_cases h2 : j = o
        · subst h2
          simp [ho, show j < j + 1 + vs.length by omega]
        · by_cases h3 : j < o + 1 + vs.length
          · simp [h1, show ¬ j < o + 1 by omega, h3, show j < o + (vs.length + 1) by omega, show ¬ j - o = 0 by omega, show j - o - 1 = j - (o + 1) by omega]
          · have e1 : ¬ o = o + 1 + vs.length + (j - (o + 1 + vs.length)) := by omega
            simp [h1, h3, show ¬ j < o + 1 by omega, show ¬ j < o + (vs.length + 1) by omega, e1, show o + (vs.length + 1) + (j - (o + (vs.length + 1))) = o + 1 + vs.length + (j - (o + 1 + vs.length)) by omega]
    · show ((w.setCell ⟨g, o, none⟩ v).setCells g (o + 1) vs).heap[k]? = _
      rw [q2 k hk]
      exact heap_setCell_other w ⟨g, o, none⟩ k v hk
theorem clear_pl (w : World) (ty : TypeId) (b o c n : Nat) (hn : n = 1) (hc : ∀ j, j < 2 → (w.cell? ⟨b, o + j, none⟩).isSome = true) (hf : ∀ j, j < 2 → w.frozen? ⟨b, o + j, none⟩ = false) :
    (Builtin.clear_ #[62] ty #[.slice (some ⟨b, o, none⟩) n c]).run Try.prog w = .ok (.tuple #[]) (w.setCells b o [.int .u32 0, .int .i64 0]) := by
  subst hn
  have hv : ∀ w, (zeroValue 65).run Try.prog w = .ok (.agg #[.int .u32 0, .int .i64 0]) w := fun w => by kernel_rfl
  have hzc : (Builtin.zeroCells (Value.agg #[.int .u32 0, .int .i64 0]).cells 1).toList = [.int .u32 0, .int .i64 0] := by kernel_rfl
  have hst := run_storeCells_cells (P := Try.prog) b o [.int .u32 0, .int .i64 0] 0 w (by simpa using hc) (by simpa using hf) (by intro v hv'; simp at hv'; rcases hv' with rfl | rfl <;> rfl)
  simp only [Nat.add_zero] at hst
  simp [Builtin.clear_, run_underlying Try.underlying62, hv, hzc, hst]
theorem rows_drop (P : List (Nat × Nat)) (k : Nat) : (rows plC P).drop (k * 2) = rows plC (P.drop k) := by
  induction P generalizing k with
  | nil => simp [rows]
  | cons p P ih =>
    cases k with
    | zero => rfl
    | succ k =>
      rw [show (k + 1) * 2 = k * 2 + 1 + 1 by omega]
      show (rows plC P).drop (k * 2) = _
      rw [ih k]; rfl
theorem rows_take (P : List (Nat × Nat)) (k : Nat) : (rows plC P).take (k * 2) = rows plC (P.take k) := by
  induction P generalizing k with
  | nil => simp [rows]
  | cons p P ih =>
    cases k with
    | zero => rfl
    | succ k =>
      rw [show (k + 1) * 2 = k * 2 + 1 + 1 by omega]
      show _ :: _ :: (rows plC P).take (k * 2) = _
      rw [ih k]; rfl
theorem rows_app (P Q : List (Nat × Nat)) : rows plC (P ++ Q) = rows plC P ++ rows plC Q := by simp [rows]
theorem rows_one (P : List (Nat × Nat)) : ∀ u ∈ rows plC P, u.oneCell' = true := by
  intro u hu
  simp only [rows, List.mem_flatMap] at hu
  obtain ⟨p, _, hp⟩ := hu
  simp [plC] at hp
  rcases hp with rfl | rfl <;> rfl
set_option maxRecDepth 100000 in
set_option maxHeartbeats 4000000 in
theorem del_any (base : Nat) (a : Option Addr) (c : Nat) (P : List (Nat × Nat)) (r m : Nat) (hn : P.length = r + 1 + m) (w : World) (hL : P.length ≤ 1000000) (hown : w.ownsRow base 65 2 (.slice a P.length c) P.length (rows plC P)) :
    Calls Try.prog 37 #[.slice a P.length c, .int .i64 (r : Nat), .int .i64 ((r : Int) + 1)] w fun e w' => e = .returned (.slice a (r + m) c) ∧ w'.ownsRow base 65 2 (.slice a (r + m) c) (r + m) (rows plC (P.take r ++ P.drop (r + 1))) ∧ w.grownBy w' (Value.slice a P.length c).ownBlock := by
  obtain ⟨i0, hi, hz0, hz1, hz2⟩ := info_parts infoPl
  rcases hown.2 with ⟨_, h0⟩ | ⟨g, cap, cur, hv, hbg, hg, hnc, hcm, hcs, htk⟩
  · omega
  simp only [Value.slice.injEq] at hv
  obtain ⟨rfl, -, rfl⟩ := hv
  have hlt := (Array.getElem?_eq_some_iff.1 hg).1
  have hcl : cur.toList.length = c * 2 := by simpa using hcs
  have hg' : w.drew.heap[g]? = some (.cells cur.toList.toArray 65 (0, 0)) := by
    show w.heap[g]? = _
    rw [hg]
  have hcell : ∀ j, j < c * 2 → (w.drew.cell? ⟨g, j, none⟩).isSome = true ∧ w.drew.frozen? ⟨g, j, none⟩ = false := fun j hj => by
    refine ⟨?_, Lib.frozen_of_heap hg' j⟩
    rw [Lib.cell_of_heap hg', ← Array.getElem?_toList, List.getElem?_eq_getElem (by simpa using by omega)]
    rfl
  obtain ⟨news, hnews⟩ : ∃ news, news = rows plC (P.drop (r + 1)) := ⟨_, rfl⟩
  have hnl : news.length = m * 2 := by
    rw [hnews, rows_len plC 2 (fun _ => rfl), List.length_drop]; omega
  have hnat : ∀ j u, news[j]? = some u → w.drew.cell? ⟨g, (r + 1) * 2 + j, none⟩ = some u := fun j u hj => by
    have hjl := (List.getElem?_eq_some_iff.1 hj).1
    rw [Lib.cell_of_heap hg', ← Array.getElem?_toList]
    rw [hnews, ← rows_drop, ← htk, List.getElem?_drop, List.getElem?_take, if_pos (by omega)] at hj
    simpa using hj
  obtain ⟨A, hA, hsrc⟩ : ∃ A : Addr, (if c = r + 1 then some (⟨g, 0, none⟩ : Addr) else some ⟨g, (r + 1) * 2, none⟩) = some A ∧ Box (∀ t u, news[t]? = some u → w.drew.cell? (A.add t) = some u) := by
    by_cases h : c = r + 1
    · refine ⟨_, if_pos h, ⟨fun t u hu => ?_⟩⟩
      have : news = [] := List.length_eq_zero_iff.1 (by rw [hnl]; omega)
      rw [this] at hu
      simp at hu
    · refine ⟨_, if_neg h, ⟨fun t u hu => ?_⟩⟩
      rw [Addr.add_lit]
      exact hnat t u hu
  have hs : Src Try.prog i0.size 62 (.slice (some A) m (c - (r + 1))) m news w.drew := Src.ofSlice w.drew Try.underlying62 A m (c - (r + 1)) news (by rw [hz1, hnl]) hsrc.out (by rw [hnews]; exact rows_one _)
  have happ := fun ty => run_append_room_src (P := Try.prog) w.drew 62 62 ty 65 i0 Try.underlying62 hi g 0 r c (.slice (some A) m (c - (r + 1))) m news hs (by omega)
    (fun j hj => (hcell _ (by rw [hz1]; rw [hnl] at hj; omega)).1) (fun j hj => (hcell _ (by rw [hz1]; rw [hnl] at hj; omega)).2)
  rw [hz1, Nat.zero_add] at happ
  obtain ⟨q1, q2, q3, q4, q5, q6⟩ := setCells_heap news (r * 2) cur.toList w.drew hg' (by rw [hnl, hcl]; omega)
  have hlen1 : (cur.toList.take (r * 2) ++ news ++ cur.toList.drop (r * 2 + news.length)).length = c * 2 := by
    simp only [List.length_append, List.length_take, List.length_drop, hcl, hnl]; omega
  obtain ⟨W1, hW1⟩ : ∃ W1, W1 = w.drew.setCells g (r * 2) news := ⟨_, rfl⟩
  rw [← hW1] at happ q1 q2 q3 q4 q5 q6
  have hclr := fun ty => clear_pl W1 ty g ((r + m) * 2) (c - (r + m)) (r + 1 + m - (r + m)) (by omega) (fun j hj => by
      rw [Lib.cell_of_heap q1, ← Array.getElem?_toList, List.getElem?_eq_getElem (by rw [List.toList_toArray, hlen1]; omega)]
      rfl) (fun j hj => Lib.frozen_of_heap q1 _)
  obtain ⟨p1, p2, p3, p4, p5, p6⟩ := setCells_heap [.int .u32 0, .int .i64 0] ((r + m) * 2) _ W1 q1 (by rw [hlen1]; simp; omega)
  obtain ⟨W2, hW2⟩ : ∃ W2, W2 = W1.setCells g ((r + m) * 2) [.int .u32 0, .int .i64 0] := ⟨_, rfl⟩
  rw [← hW2] at hclr p1 p2 p3 p4 p5 p6
  have hfin : Box (W2.ownsRow base 65 2 (.slice (some ⟨g, 0, none⟩) (r + m) c) (r + m) (rows plC (P.take r ++ P.drop (r + 1))) ∧ w.grownBy W2 (some g)) := ⟨by
    refine ⟨⟨?_, Or.inr ⟨g, c, _, rfl, hbg, p1, by omega, hcm, ?_, ?_⟩⟩, ⟨?_, ?_, ?_, ?_, ?_⟩⟩
    · rw [rows_len plC 2 (fun _ => rfl), List.length_append, List.length_take, List.length_drop]; omega
    · simp only [List.size_toArray, List.length_append, List.length_take, List.length_drop, List.length_cons, List.length_nil, hcl, hnl]; omega
    · have e1 : (cur.toList.take (r * 2) ++ news ++ cur.toList.drop (r * 2 + news.length)).take ((r + m) * 2) = cur.toList.take (r * 2) ++ news := by
        rw [List.take_append_of_le_length (by simp only [List.length_append, List.length_take, hcl, hnl]; omega), List.take_of_length_le (by simp only [List.length_append, List.length_take, hcl, hnl]; omega)]
      rw [List.toList_toArray, e1, List.append_assoc, List.take_append_of_le_length (by simp only [List.length_append, List.length_take, hcl, hnl]; omega), List.take_of_length_le (by simp only [List.length_append, List.length_take, hcl, hnl]; omega), rows_app, ← hnews]
      congr 1
      rw [← rows_take, ← htk, List.take_take, show min (r * 2) (P.length * 2) = r * 2 by omega]
    · rw [p4, q4]; rfl
    · rw [p5, q5]; rfl
    · rw [p6, q6]; rfl
    · rw [p3, q3]; exact Nat.le_refl _
    · intro k hk hne
      have hkg : k ≠ g := fun e => hne (by rw [e])
      rw [p2 k hkg, q2 k hkg]; rfl⟩
  clear p1 p2 p3 p4 p5 p6 q1 q2 q3 q4 q5 q6 hW2 hlen1 hW1 hs hsrc hnat hnl hnews hcell hg' hown
  rw [hn] at hL hnc ⊢
  have s1 : (0 : Int) ≤ (r : Int) := by omega
  have s2 : (r : Int) + 1 ≤ ((r + 1 + m : Nat) : Int) := by omega
  have s3 : r ≤ c := by omega
  have s4 : r + 1 ≤ c := by omega
  have s5 : (r : Int) ≤ (c : Int) := by omega
  have s6 : (r : Int) + 1 ≤ (c : Int) := by omega
  have s7 : (r : Int) + 1 ≤ (r : Int) + 1 + (m : Int) := by omega
  have s8 : (0 : Int) ≤ (r : Int) + 1 := by omega
  have s9 : ((r : Int) == (r : Int) + 1) = false := by rw [beq_eq_false_iff_ne]; omega
  go_enter Try.func37, Try.ntmps37
  go_wp2_with (fail)
  go_region_held3 (fun _ => True)
    (first
      | go_keep
      | trivial)
    ((refine step_append_run rfl _ _ _ rfl _ _ _ _ rfl rfl (happ _) ?_))
  all_goals
    go_wp2_with (fail)
    go_ret
    exact ⟨rfl, hfin.out⟩
end Go.Proofs.Ytbhfpofcebepiaa
