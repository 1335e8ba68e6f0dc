import Derived.Test.YtcofejbkbcdopaaGreatDoorR11
/- Contract: pointers to the numbers of a count. -/
namespace Go.Proofs.YtcofejbkbcdopaaGreatDoor
open Go.RowKit
set_option maxRecDepth 100000 in
set_option maxHeartbeats 8000000 in
theorem numbers_any (b : Nat) (w : World) : Calls Tryz.prog 18 #[.pointer (some ⟨b, 0, none⟩)] w fun e w' => ∃ v, e = .returned v ∧ PtrsAt b w' v ∧ Ext w w' := by
  obtain ⟨i0, hi, hz0, hz1, hz2⟩ := info_parts infoPtr
  go_enter Tryz.func18, Tryz.ntmps18
  go_wp2
  go_region
  go_wp2
  have hown0 : ((w.alloc (.cells #[.pointer (some ⟨b, 0, none⟩), .pointer (some ⟨b, 1, none⟩), .pointer (some ⟨b, 2, none⟩), .pointer (some ⟨b, 3, none⟩), .pointer (some ⟨b, 4, none⟩)] 66)).drew).ownsRow w.heap.size 66 1 (.slice (some ⟨w.heap.size, 0, none⟩) 5 5) 5 (psR b 5) := by
    have := World.ownsRow_lit (base := w.heap.size) (e := 66) (size := 1) w #[.pointer (some ⟨b, 0, none⟩), .pointer (some ⟨b, 1, none⟩), .pointer (some ⟨b, 2, none⟩), .pointer (some ⟨b, 3, none⟩), .pointer (some ⟨b, 4, none⟩)] 5 (Nat.le_refl _) (by unfold maxLen; decide) rfl
    exact this
  have hx0 : Ext w (w.alloc (.cells #[.pointer (some ⟨b, 0, none⟩), .pointer (some ⟨b, 1, none⟩), .pointer (some ⟨b, 2, none⟩), .pointer (some ⟨b, 3, none⟩), .pointer (some ⟨b, 4, none⟩)] 66)).drew := Ext.drew1 (Ext.alloc (Below.refl _ _) _)
  go_loopw [3, 4, 21] (fun v _ i wr => ∃ t : Nat, t ≤ 5 ∧ i = .int .i64 (t : Int) ∧ Box (wr.ownsRow w.heap.size 66 1 v (5 + t) (psR b (5 + t))) ∧ Ext w wr) (fun _ _ i _ => 5 - (intOf i).toNat)
  case atStart => exact ⟨0, by omega, rfl, ⟨hown0⟩, hx0⟩
  case round =>
    clear hown0 hx0
    obtain ⟨t, ht, rfl, hown, hx⟩ := hrel
    have hW := hx.size
    by_cases h5 : t < 5
    · have d1 : decide ((t : Int) < 5) = true := decide_eq_true (by omega)
      have d2 : (t : Int) < 5 := by omega
      have hsn := Box.mk (psR_succ b (5 + t))
      go_wp2_with (first
        | (at_builtin; refine wpList_push rfl _ _ 63 rfl w.heap.size 66 i0 (.pointer none) 1 8 Tryz.underlying63 hi hz0 hz1 hz2 rfl (by decide) _ _ _ rfl hown.out [.pointer (some ⟨b, 5 + t, none⟩)] rfl rfl (by simp [Value.oneCell']) (by omega) (by omega) hW ?_; intro v1 w2 hown2 hg2 hbel2 hs2))
      rw [← hsn.out] at hown2
      have hx2 : Ext w w2 := Below.trans hx hbel2
      clear hbel2 hg2
      go_roundw
      case rel => exact ⟨t + 1, by omega, by go_num, ⟨hown2⟩, hx2⟩
      case measure => simp [intOf]; omega
    · obtain rfl : t = 5 := by omega
      go_wp2
      go_region_held3 (fun _ => True)
        (first
          | go_keep
          | trivial)
        ((refine step_append_lies _ (by rfl) _ _ _ (by rfl) w.heap.size 66 i0 _ 1 8 Tryz.underlying63 hi hz0 hz1 hz2 rfl (by omega) _ 10 (psR b 10) (by rfl) ((hown.out.alloc _).drew)
              ⟨wr.heap.size, 0, none⟩ 2 2 [.pointer (some ⟨b, 10, none⟩), .pointer (some ⟨b, 11, none⟩)] (by rfl) (by rfl) (World.news_of_block (cs := #[.pointer (some ⟨b, 10, none⟩), .pointer (some ⟨b, 11, none⟩)]) (t := 66) (fr := (0, 0)) (heap_alloc_new wr _)) (by simp [Value.oneCell'])
              (by omega) (by unfold maxLen; omega) (by omega) (by simp; omega) (wr.heap.size + 1) (by simp) ?_; intro gg cap w1 hown1 hgrow hat hlt1))
      all_goals
        have hx2 : Ext w w1 := Below.grown (Ext.drewN (Ext.alloc hx _) 1) hgrow (by simp; omega) (fun j hj => (hown.out.lt j hj).1)
        go_wp2
        go_ret
        have e : psR b 10 ++ [.pointer (some ⟨b, 10, none⟩), .pointer (some ⟨b, 11, none⟩)] = psR b 12 := rfl
        rw [e] at hown1
        refine ⟨_, rfl, ?_, hx2⟩
        rcases hown1.2 with ⟨h9, h0⟩ | ⟨g, cap', cur, h9, -, hg, -, -, -, htake⟩
        · cases h0
        · cases h9
          refine ⟨gg, cap, cur, rfl, hg, fun j hj => ?_⟩
          have e : cur[j]? = (cur.toList.take (12 * 1))[j]? := by
            rw [List.getElem?_take, if_pos (by omega)]; simp
          rw [e, htake]
          simp [psR, hj]
end Go.Proofs.YtcofejbkbcdopaaGreatDoor
