import Derived.Test.YtbhfpofcebepiaaB23
/- Contracts: turn's closure, maps.DeleteFunc. -/
namespace Go.Proofs.Ytbhfpofcebepiaa
open Go.RowKit Go.ChangeMaps
theorem cells3 {w : World} {B : Nat} {c0 c1 c2 : Value} {T : TypeId} (h : w.heap[B]? = some (.cells #[c0, c1, c2] T (0, 0))) : w.cell? ⟨B, 0, none⟩ = some c0 ∧ w.cell? ⟨B, 1, none⟩ = some c1 ∧ w.cell? ⟨B, 2, none⟩ = some c2 :=
  ⟨by rw [Lib.cell_of_heap h]; rfl, by rw [Lib.cell_of_heap h]; rfl, by rw [Lib.cell_of_heap h]; rfl⟩
theorem isOut_any (k out X : Nat) (v left : Bool) (w : World) (h1 : w.cell? ⟨X, 1, none⟩ = some (.bool left)) (h2 : w.cell? ⟨X, 2, none⟩ = some (.int .u32 (out : Nat))) :
    Calls Try.prog 49 #[.int .u32 (k : Nat), .bool v, .pointer (some ⟨X, 0, none⟩)] w fun e w' => e = .returned (.bool (left && decide (k = out))) ∧ w = w' := by
  have e1 : ((k : Int) == (out : Int)) = decide (k = out) := by
    by_cases h : k = out
    · subst h; simp
    · rw [decide_eq_false h, beq_eq_false_iff_ne]; omega
  have e2 : (k == out) = decide (k = out) := by
    by_cases h : k = out
    · subst h; simp
    · rw [decide_eq_false h, beq_eq_false_iff_ne]; exact h
  generalize decide (k = out) = r at *
  cases left with
  | true =>
    go_enter Try.func49, Try.ntmps49
    go_wp2
    go_ret
    exact ⟨rfl, rfl⟩
  | false =>
    go_enter Try.func49, Try.ntmps49
    go_wp2
    go_ret
    exact ⟨rfl, rfl⟩
theorem nodup_inj' {O : List Nat} (hn : O.Nodup) {i j : Nat} (hi : i < O.length) (hj : j < O.length) (h : O[i] = O[j]) : i = j := nodup_inj hn hi hj h
def delOf (left : Bool) (out : Nat) (C : List Nat) : List Nat := if left then woB C out else C
/-- How many entries are left. -/
def dMes (B it : Nat) (w : World) : Nat := match w.heap[B]?, w.heap[it]? with
  | some (.map es _), some (.mapIter _ _ seen _) => (leftOf es seen).size
  | _, _ => 0
theorem dMes_eq {B it : Nat} {w : World} {es : Array MapEntry} {cl : Nat} {m : Option Nat} {s c : Nat} {seen : Array Nat} (h1 : w.heap[B]? = some (.map es cl)) (h2 : w.heap[it]? = some (.mapIter m s seen c)) : dMes B it w = (leftOf es seen).size := by
  unfold dMes
  rw [h1, h2]
/-- Between two rounds of DeleteFunc. -/
structure DelR (B it : Nat) (C0 : List Nat) (left : Bool) (out : Nat) (w wr : World) (es : Array MapEntry) (cl : Nat) (seen : Array Nat) (C : List Nat) : Prop where
  keep : KeepB B w wr
  iter : wr.heap[it]? = some (.mapIter (some B) cl seen cl)
  map : wr.heap[B]? = some (.map es cl)
  ok : BMap es.toList C cl
  nd : C.Nodup
  st : (C = C0 ∧ ∀ e ∈ es.toList, seen.contains e.born = true → left = true → e.key ≠ .int .u32 (out : Nat)) ∨ C = delOf left out C0 ∧ out ∉ C
set_option maxRecDepth 100000 in
set_option maxHeartbeats 8000000 in
theorem delf_any (B X : Nat) (C0 : List Nat) (hit left : Bool) (out : Nat) (w : World) (hn : C0.Nodup) (hB : BAt w B C0) {T : TypeId} (hX : w.heap[X]? = some (.cells #[.bool hit, .bool left, .int .u32 (out : Nat)] T (0, 0))) :
    Calls Try.prog 48 #[.map (some B), .func (.func 49) #[] #[.pointer (some ⟨X, 0, none⟩)]] w fun e w' => e = .returned (.tuple #[]) ∧ KeepB B w w' ∧ BAt w' B (delOf left out C0) := by
  obtain ⟨es0, cl0, hm0, ho0⟩ := hB
  have hrg := run_range_map (P := Try.prog) w 73 _ _ B es0 cl0 Try.underlying73 hm0
  have hXB : X ≠ B := fun e => by rw [e, hm0] at hX; cases hX
  have hlt := blk_lt hm0
  have hstart : Box (DelR B w.heap.size C0 left out w (w.alloc (.mapIter (some B) cl0 #[] cl0)) es0 cl0 #[] C0) := ⟨⟨KeepB.of_ext (Ext.alloc (Below.refl _ _) _), newblk w _, Ext.blk (Ext.alloc (Below.refl _ _) _) hm0, ho0, hn, Or.inl ⟨rfl, fun e _ h => by simp at h⟩⟩⟩
  replace hX := Box.mk hX
  clear hm0 ho0
  go_enter Try.func48, Try.ntmps48
  go_wp2
  go_loopw [8] (fun _ wr => ∃ es cl seen C, Box (DelR B w.heap.size C0 left out w wr es cl seen C)) (fun _ wr => dMes B w.heap.size wr)
  case atStart => exact ⟨es0, cl0, #[], C0, hstart⟩
  case round =>
    obtain ⟨es, cl, seen, C, hR⟩ := hrel
    rcases run_next_at (P := Try.prog) wr 0 w.heap.size B cl cl seen es cl hR.out.iter hR.out.map hR.out.ok.born (Nat.le_refl _) with ⟨h0, hnx⟩ | ⟨e, he, w1, hw1, hnx⟩
    · have hfin : Box (KeepB B w wr ∧ BAt wr B (delOf left out C0)) := ⟨hR.out.keep, es, cl, hR.out.map, by
        have hall : ∀ e ∈ es.toList, seen.contains e.born = true := fun e he => by
          cases hc : seen.contains e.born with
          | true => rfl
          | false =>
            have : e ∈ leftOf es seen := by
              unfold leftOf
              rw [Array.mem_filter]
              exact ⟨Array.mem_toList_iff.1 he, by rw [hc]; rfl⟩
            have hp := Array.size_pos_of_mem this
            omega
        have hC : C = delOf left out C0 := by
          rcases hR.out.st with ⟨h1, h2⟩ | ⟨h1, _⟩
          · rw [h1]
            unfold delOf
            cases left with
            | false => rfl
            | true =>
              rw [if_pos rfl]
              refine (woB_no _ _ fun hm => ?_).symm
              rw [← h1] at hm
              obtain ⟨j, hj, hjx⟩ := List.getElem_of_mem hm
              have hlen : es.toList.length = C.length := by
                have := congrArg List.length hR.out.ok.pairs
                simpa [prs, tC] using this
              obtain ⟨k, hk, hkey, _⟩ := bmap_at hR.out.ok j es.toList[j] (List.getElem?_eq_getElem (by omega))
              have hmem : es.toList[j] ∈ es.toList := List.getElem_mem (by omega)
              refine h2 _ hmem (hall _ hmem) rfl ?_
              rw [hkey]
              rw [List.getElem?_eq_getElem hj, hjx] at hk
              cases hk
              rfl
          · exact h1
        rw [← hC]
        exact hR.out.ok⟩
      go_wp2
      go_end0
      exact ⟨rfl, hfin.out⟩
    · obtain ⟨hmem, hns⟩ := mem_left he
      obtain ⟨j, hjl, hje⟩ := List.getElem_of_mem hmem
      obtain ⟨k, hk, hkey, hval⟩ := bmap_at hR.out.ok j e (by rw [List.getElem?_eq_getElem hjl, hje])
      rw [hkey, hval] at hnx
      have hh : w1.heap = wr.heap ∧ w1.os = wr.os ∧ w1.tape = wr.tape ∧ w1.output = wr.output := by
        rcases hw1 with rfl | rfl
        · exact ⟨rfl, rfl, rfl, rfl⟩
        · exact ⟨rfl, rfl, rfl, rfl⟩
      have hitl := blk_lt hR.out.iter
      have hneB : B ≠ w.heap.size := by omega
      have hXl := blk_lt hX.out
      have hI1 : (setBlock w1 w.heap.size (.mapIter (some B) cl (seen.push e.born) cl)).heap[w.heap.size]? = some (.mapIter (some B) cl (seen.push e.born) cl) := setBlock_same (by rw [hh.1]; exact hitl) _
      have hB1 : (setBlock w1 w.heap.size (.mapIter (some B) cl (seen.push e.born) cl)).heap[B]? = some (.map es cl) := setBlock_other (by rw [hh.1]; exact hR.out.map) hneB _
      have hX1 : (setBlock w1 w.heap.size (.mapIter (some B) cl (seen.push e.born) cl)).heap[X]? = some (.cells #[.bool hit, .bool left, .int .u32 (out : Nat)] T (0, 0)) := setBlock_other (by rw [hh.1]; exact (hR.out.keep.block X hXl hXB).trans hX.out) (by omega) _
      have hk1 : KeepB B w (setBlock w1 w.heap.size (.mapIter (some B) cl (seen.push e.born) cl)) := by
        have kp := hR.out.keep
        refine ⟨hh.2.1.trans kp.os, hh.2.2.1.trans kp.tape, hh.2.2.2.trans kp.output, ?_, fun q hq hne => ?_⟩
        · show w.heap.size ≤ (w1.heap.setIfInBounds _ _).size
          rw [Array.size_setIfInBounds, hh.1]
          exact kp.size
        · show (w1.heap.setIfInBounds _ _)[q]? = _
          rw [Array.getElem?_setIfInBounds, if_neg (by omega), hh.1]
          exact kp.block q hq hne
      have hen := run_entry_at (P := Try.prog) _ w.heap.size B cl seen es cl e hI1 hB1 hmem hR.out.ok.ones
      rw [hkey, hval] at hen
      obtain ⟨-, x1, x2⟩ := cells3 hX1
      have cO := Box.mk (isOut_any k out X true left _ x1 x2)
      have hshr := left_shrinks es seen e he
      have hm0 := dMes_eq hR.out.map hR.out.iter
      have hm1 := dMes_eq hB1 hI1
      by_cases hdel : (left && decide (k = out)) = true
      · rw [hdel] at cO
        simp only [Bool.and_eq_true, decide_eq_true_eq] at hdel
        obtain ⟨hl, rfl⟩ := hdel
        subst hl
        have hbd := fun ty => bDel hB1 hR.out.ok hR.out.nd j k hk ty
        have hdr := fun ty => (hbd ty).1
        have hok := (hbd 0).2
        have hstep : Box (DelR B w.heap.size C0 true k w (setBlock (setBlock w1 w.heap.size (.mapIter (some B) cl (seen.push e.born) cl)) B (.map (es.eraseIdxIfInBounds j) cl)) (es.eraseIdxIfInBounds j) cl (seen.push e.born) (woB C k)) := ⟨by
          have hI2 := setBlock_other hI1 (fun e => hneB e.symm) (.map (es.eraseIdxIfInBounds j) cl)
          have hB2 := setBlock_same (blk_lt hB1) (.map (es.eraseIdxIfInBounds j) cl)
          refine ⟨hk1.trans (KeepB.set _ _), hI2, hB2, hok, woB_nodup _ hR.out.nd, Or.inr ⟨?_, fun h => (woB_mem.1 h).2 rfl⟩⟩
          rcases hR.out.st with ⟨h1, _⟩ | ⟨_, h2⟩
          · rw [h1]; rfl
          · exact absurd (List.mem_of_getElem? hk) h2⟩
        have hmes : Box (dMes B w.heap.size (setBlock (setBlock w1 w.heap.size (.mapIter (some B) cl (seen.push e.born) cl)) B (.map (es.eraseIdxIfInBounds j) cl)) < dMes B w.heap.size wr) := ⟨by
          rw [dMes_eq hstep.out.map hstep.out.iter, hm0]
          refine Nat.lt_of_le_of_lt ?_ hshr
          unfold leftOf
          have e1 : ∀ (p : MapEntry → Bool) (es : Array MapEntry), (es.filter p).size = (es.toList.filter p).length := fun p es => by rw [← Array.toList_filter, Array.length_toList]
          rw [e1, e1, Array.toList_eraseIdxIfInBounds]
          exact ((List.eraseIdx_sublist _ _).filter _).length_le⟩
        clear hbd hok hm0 hm1 hshr hk1 hX1 hI1 hB1 hh x1 x2
        generalize setBlock w1 w.heap.size (.mapIter (some B) cl (seen.push e.born) cl) = W1 at *
        go_wp2_with (first | (go_at_call 49; (with_reducible refine (cO.out).mono ?_); rintro r w2 ⟨rfl, rfl⟩))
        go_roundw
        case rel => exact ⟨_, _, _, _, hstep⟩
        case measure => exact hmes.out
      · rw [Bool.eq_false_iff.2 hdel] at cO
        have hstep : Box (DelR B w.heap.size C0 left out w (setBlock w1 w.heap.size (.mapIter (some B) cl (seen.push e.born) cl)) es cl (seen.push e.born) C) := ⟨by
          refine ⟨hk1, hI1, hB1, hR.out.ok, hR.out.nd, ?_⟩
          rcases hR.out.st with ⟨h1, h2⟩ | h2
          · refine Or.inl ⟨h1, fun e' he' hs hl hke => ?_⟩
            rw [contains_push, Bool.or_eq_true] at hs
            rcases hs with hs | hs
            · exact h2 e' he' hs hl hke
            · obtain ⟨j', hj', hje'⟩ := List.getElem_of_mem he'
              have hbb : e'.born = e.born := by simpa using hs
              have hjj : j' = j := by
                have h5 := nodup_inj' hR.out.ok.ones (i := j') (j := j) (by simpa using hj') (by simpa using hjl) (by simp only [List.getElem_map]; rw [hje', hje]; exact hbb)
                exact h5
              subst hjj
              rw [hje] at hje'
              subst hje'
              rw [hkey] at hke
              simp only [Value.int.injEq, true_and] at hke
              exact hdel (by simp only [Bool.and_eq_true, decide_eq_true_eq]; exact ⟨hl, by omega⟩)
          · exact Or.inr h2⟩
        have hmes : Box (dMes B w.heap.size (setBlock w1 w.heap.size (.mapIter (some B) cl (seen.push e.born) cl)) < dMes B w.heap.size wr) := ⟨by rw [hm1, hm0]; exact hshr⟩
        clear hm0 hm1 hshr hk1 hX1 hI1 hB1 hh x1 x2
        generalize setBlock w1 w.heap.size (.mapIter (some B) cl (seen.push e.born) cl) = W1 at *
        go_wp2_with (first | (go_at_call 49; (with_reducible refine (cO.out).mono ?_); rintro r w2 ⟨rfl, rfl⟩))
        go_roundw
        case rel => exact ⟨_, _, _, _, hstep⟩
        case measure => exact hmes.out
end Go.Proofs.Ytbhfpofcebepiaa
