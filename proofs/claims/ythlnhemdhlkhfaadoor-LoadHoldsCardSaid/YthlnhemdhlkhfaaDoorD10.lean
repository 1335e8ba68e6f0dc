import Derived.Test.YthlnhemdhlkhfaaDoorD9
/- How often each key is requested. -/
namespace Go.Proofs.YthlnhemdhlkhfaaDoor
open Go.RowKit

def cnt (f : Nat → Nat) : Nat → Nat → Nat
  | 0, _ => 0
  | t + 1, j => cnt f t j + if f t = j then 1 else 0
theorem cnt_le (f : Nat → Nat) : ∀ t j, cnt f t j ≤ t
  | 0, _ => Nat.le_refl _
  | t + 1, j => by
    have := cnt_le f t j
    show cnt f t j + _ ≤ _
    split <;> omega
theorem cnt_set (f : Nat → Nat) (t a : Nat) : (i64s (cnt f t) a).set (f t) (.int .i64 ((cnt f t (f t) : Nat) + 1 : Int)) = i64s (cnt f (t + 1)) a := by
  apply List.ext_getElem (by simp [i64s])
  intro i h1 h2
  rw [List.getElem_set]
  by_cases h : f t = i
  · subst h; simp [i64s, cnt]
  · rw [if_neg h]
    simp [i64s, cnt, h]
theorem made_i64 (f : Nat → Nat) (n : Nat) : (madeCells (Value.int .i64 0).cells (n * 1)).toList = i64s (cnt f 0) n := by
  rw [Nat.mul_one, show (Value.int .i64 0).cells = #[.int .i64 0] from rfl, toList_madeCells_one]
  apply List.ext_getElem (by simp [i64s])
  intro i h1 h2
  simp [i64s, cnt]
theorem infoInt : (Tryd.prog.info? 3).map (fun i => (i.zero, i.size, i.bytes)) = some (some (.int .i64 0), 1, 8) := by kernel_rfl
/-- What both counts answer where the numbers of requests and of keys are as they may be. -/
def CntPost (f : Nat → Nat) (n a : Nat) (w : World) (e : Ending) (w' : World) : Prop :=
  Ext w w' ∧ ((∃ v, e = .returned (.tuple #[v, .int .i64 0]) ∧ Sl w' v a (i64s (cnt f n) a) ∧ ∀ i, i < n → f i < a) ∨ (e = .returned (.tuple #[.slice none 0 0, .int .i64 3]) ∧ ∃ i, i < n ∧ a ≤ f i))
set_option maxRecDepth 100000 in
set_option maxHeartbeats 4000000 in
theorem counts_any (v : Value) (f : Nat → Nat) (n a : Nat) (w : World) (hv : Sl w v n (u32s f n)) (hn : n ≤ 4096) (h0 : 1 ≤ a) (ha : a ≤ 4096) (hf : ∀ i, i < n → f i < 4294967296) :
    Calls Tryd.prog 16 #[v, .int .i64 a] w (CntPost f n a w) := by
  unfold CntPost
  obtain ⟨i0, hi, hz0, hz1, hz2⟩ := info_parts infoInt
  obtain ⟨ad, c, rfl, hl1, hnc, hc⟩ := hv
  have Hc : Box _ := ⟨hc⟩
  have Hf : Box _ := ⟨hf⟩
  have d1 : decide (4096 < (n : Int)) = false := decide_eq_false (by omega)
  have d2 : decide ((a : Int) < 1) = false := decide_eq_false (by omega)
  have d3 : decide (4096 < (a : Int)) = false := decide_eq_false (by omega)
  clear hc hf
  go_enter Tryd.func16, Tryd.ntmps16
  go_wp2_with (first
    | (at_make; refine wpList_make_full _ rfl _ _ 36 rfl w.heap.size 3 i0 (.int .i64 0) 1 Tryd.underlying36 hi hz0 hz1 .i64 .i64 _ _ a rfl rfl rfl rfl (by rw [hz2]; omega) (by unfold maxLen; omega) (Nat.le_refl _) ?_; intro w4 hown hgrow; have hb4 := Below.grown (Below.refl w.heap.size w) hgrow (Nat.le_refl _) (fun j hj => by cases hj)))
  rw [made_i64 f a] at hown
  have hown := Box.mk hown
  have hc4 := Box.mk (CellsAt.ext hb4 Hc.out)
  have hb := Box.mk hb4
  have hwO : w.heap.size ≤ w.heap.size := Nat.le_refl _
  generalize hO : w.heap.size = O at hown ⊢
  rw [hO] at hwO
  have hOb := Box.mk hO
  clear hO hgrow hb4 hwO
  go_loopw [24] (fun i wr => ∃ t : Nat, t ≤ n ∧ i = .int .i64 t ∧ Box (wr.ownsRow O 3 1 (.slice (some ⟨O, 0, none⟩) a a) a (i64s (cnt f t) a)) ∧ Box (Ext w wr) ∧ Box (∀ i, i < t → f i < a)) (fun i _ => n - (intOf i).toNat)
  case atStart => exact ⟨0, by omega, rfl, hown, hb, ⟨fun i h => by omega⟩⟩
  case round =>
    obtain ⟨t, ht, rfl, hot, hxt, hlt⟩ := hrel
    by_cases htn : t < n
    · have hq32 := Hf.out t htn
      have hct := CellsAt.ext hxt.out Hc.out
      obtain ⟨b1, o1, rfl, hcell1⟩ := hct t _ (u32s_at f htn)
      clear hct
      have hl := cnt_le f t (f t)
      have hset := Box.mk (cnt_set f t a)
      have u1 : IntKind.u64.wrap ((f t : Nat) : Int) = ((f t : Nat) : Int) := by rw [IntKind.wrap_u64]; omega
      have u2 : IntKind.u64.wrap (a : Int) = a := by rw [IntKind.wrap_u64]; omega
      by_cases hqa : f t < a
      · have d4 : decide ((a : Int) ≤ ((f t : Nat) : Int)) = false := decide_eq_false (by omega)
        have hfz := hot.out.frozenAt (f t)
        have hc5 := (hot.out.cellAt (f t) (by simp [i64s]; omega)).trans (i64s_at _ hqa)
        have hs5 := Box.mk (hot.out.stored (f t) (.int .i64 ((cnt f t (f t) : Nat) + 1 : Int))).1
        rw [hset.out] at hs5
        have hn2 : Box (∀ i, i < t + 1 → f i < a) := ⟨fun i hi => by
          by_cases h : i = t
          · rw [h]; exact hqa
          · exact hlt.out i (by omega)⟩
        clear hset hlt
        generalize cnt f t (f t) = z at *
        generalize f t = q at *
        go_wp2
        go_roundw
        case rel => exact ⟨t + 1, by omega, by go_num, hs5, ⟨Below.setCell hxt.out (p := ⟨O, q, none⟩) (by show _ ≤ O; rw [hOb.out]; exact Nat.le_refl _) _⟩, hn2⟩
        case measure => simp [intOf]; omega
      · have d4 : decide ((a : Int) ≤ ((f t : Nat) : Int)) = true := decide_eq_true (by omega)
        have hbad : Box (∃ i, i < n ∧ a ≤ f i) := ⟨t, htn, by omega⟩
        clear hset hlt
        generalize cnt f t (f t) = z at *
        generalize f t = q at *
        go_wp2
        go_ret2
        exact ⟨hxt.out, Or.inr ⟨rfl, hbad.out⟩⟩
    · obtain rfl : t = n := by omega
      go_wp2
      go_ret2
      exact ⟨hxt.out, Or.inl ⟨_, rfl, Sl.owns hot.out (by omega), hlt.out⟩⟩
set_option maxRecDepth 100000 in
set_option maxHeartbeats 4000000 in
theorem refCounts_any (v : Value) (f : Nat → Nat) (n a : Nat) (w : World) (hv : Sl w v n (u32s f n)) (hn : n ≤ 4096) (h0 : 1 ≤ a) (ha : a ≤ 4096) (hf : ∀ i, i < n → f i < 4294967296) :
    Calls Tryd.prog 17 #[v, .int .i64 a] w (CntPost f n a w) := by
  unfold CntPost
  obtain ⟨i0, hi, hz0, hz1, hz2⟩ := info_parts infoInt
  obtain ⟨ad, c, rfl, hl1, hnc, hc⟩ := hv
  have Hc : Box _ := ⟨hc⟩
  have Hf : Box _ := ⟨hf⟩
  have d1 : decide (4096 < (n : Int)) = false := decide_eq_false (by omega)
  have d2 : decide ((a : Int) < 1) = false := decide_eq_false (by omega)
  have d3 : decide (4096 < (a : Int)) = false := decide_eq_false (by omega)
  clear hc hf
  go_enter Tryd.func17, Tryd.ntmps17
  go_wp2_with (first
    | (at_make; refine wpList_make_full _ rfl _ _ 36 rfl w.heap.size 3 i0 (.int .i64 0) 1 Tryd.underlying36 hi hz0 hz1 .i64 .i64 _ _ a rfl rfl rfl rfl (by rw [hz2]; omega) (by unfold maxLen; omega) (Nat.le_refl _) ?_; intro w4 hown hgrow; have hb4 := Below.grown (Below.refl w.heap.size w) hgrow (Nat.le_refl _) (fun j hj => by cases hj)))
  rw [made_i64 f a] at hown
  have hown := Box.mk hown
  have hc4 := Box.mk (CellsAt.ext hb4 Hc.out)
  have hb := Box.mk hb4
  have hwO : w.heap.size ≤ w.heap.size := Nat.le_refl _
  generalize hO : w.heap.size = O at hown ⊢
  rw [hO] at hwO
  have hOb := Box.mk hO
  clear hO hgrow hb4 hwO
  go_loopw [7] (fun i wr => ∃ t : Nat, t ≤ n ∧ i = .int .i64 t ∧ Box (wr.ownsRow O 3 1 (.slice (some ⟨O, 0, none⟩) a a) a (i64s (cnt f t) a)) ∧ Box (Ext w wr) ∧ Box (∀ i, i < t → f i < a)) (fun i _ => n - (intOf i).toNat)
  case atStart => exact ⟨0, by omega, rfl, hown, hb, ⟨fun i h => by omega⟩⟩
  case round =>
    obtain ⟨t, ht, rfl, hot, hxt, hlt⟩ := hrel
    by_cases htn : t < n
    · have hq32 := Hf.out t htn
      have hct := CellsAt.ext hxt.out Hc.out
      obtain ⟨b1, o1, rfl, hcell1⟩ := hct t _ (u32s_at f htn)
      clear hct
      have hl := cnt_le f t (f t)
      have hset := Box.mk (cnt_set f t a)
      have u1 : True := trivial
      have u2 : IntKind.u32.wrap (a : Int) = a := by rw [IntKind.wrap_u32]; omega
      by_cases hqa : f t < a
      · have d4 : decide ((a : Int) ≤ ((f t : Nat) : Int)) = false := decide_eq_false (by omega)
        have hfz := hot.out.frozenAt (f t)
        have hc5 := (hot.out.cellAt (f t) (by simp [i64s]; omega)).trans (i64s_at _ hqa)
        have hs5 := Box.mk (hot.out.stored (f t) (.int .i64 ((cnt f t (f t) : Nat) + 1 : Int))).1
        rw [hset.out] at hs5
        have hn2 : Box (∀ i, i < t + 1 → f i < a) := ⟨fun i hi => by
          by_cases h : i = t
          · rw [h]; exact hqa
          · exact hlt.out i (by omega)⟩
        clear hset hlt
        generalize cnt f t (f t) = z at *
        generalize f t = q at *
        go_wp2
        go_roundw
        case rel => exact ⟨t + 1, by omega, by go_num, hs5, ⟨Below.setCell hxt.out (p := ⟨O, q, none⟩) (by show _ ≤ O; rw [hOb.out]; exact Nat.le_refl _) _⟩, hn2⟩
        case measure => simp [intOf]; omega
      · have d4 : decide ((a : Int) ≤ ((f t : Nat) : Int)) = true := decide_eq_true (by omega)
        have hbad : Box (∃ i, i < n ∧ a ≤ f i) := ⟨t, htn, by omega⟩
        clear hset hlt
        generalize cnt f t (f t) = z at *
        generalize f t = q at *
        go_wp2
        go_ret2
        exact ⟨hxt.out, Or.inr ⟨rfl, hbad.out⟩⟩
    · obtain rfl : t = n := by omega
      go_wp2
      go_ret2
      exact ⟨hxt.out, Or.inl ⟨_, rfl, Sl.owns hot.out (by omega), hlt.out⟩⟩
set_option maxHeartbeats 1000000 in
theorem counts_long (v : Value) (f : Nat → Nat) (n : Nat) (a : Int) (w : World) (hv : Sl w v n (u32s f n)) (hn : 4096 < n) :
    Calls Tryd.prog 16 #[v, .int .i64 a] w fun e w' => e = .returned (.tuple #[.slice none 0 0, .int .i64 5]) ∧ w = w' := by
  obtain ⟨ad, c, rfl, hl1, hnc, hc⟩ := hv
  have d1 : decide (4096 < (n : Int)) = true := decide_eq_true (by omega)
  clear hc
  go_enter Tryd.func16, Tryd.ntmps16
  go_wp2
  go_ret2
  exact ⟨rfl, rfl⟩
set_option maxHeartbeats 1000000 in
theorem refCounts_long (v : Value) (f : Nat → Nat) (n : Nat) (a : Int) (w : World) (hv : Sl w v n (u32s f n)) (hn : 4096 < n) :
    Calls Tryd.prog 17 #[v, .int .i64 a] w fun e w' => e = .returned (.tuple #[.slice none 0 0, .int .i64 5]) ∧ w = w' := by
  obtain ⟨ad, c, rfl, hl1, hnc, hc⟩ := hv
  have d1 : decide (4096 < (n : Int)) = true := decide_eq_true (by omega)
  clear hc
  go_enter Tryd.func17, Tryd.ntmps17
  go_wp2
  go_ret2
  exact ⟨rfl, rfl⟩
set_option maxHeartbeats 1000000 in
theorem counts_arg (v : Value) (f : Nat → Nat) (n : Nat) (a : Int) (w : World) (hv : Sl w v n (u32s f n)) (hn : n ≤ 4096) (ha : a < 1 ∨ 4096 < a) :
    Calls Tryd.prog 16 #[v, .int .i64 a] w fun e w' => e = .returned (.tuple #[.slice none 0 0, .int .i64 2]) ∧ w = w' := by
  obtain ⟨ad, c, rfl, hl1, hnc, hc⟩ := hv
  have d1 : decide (4096 < (n : Int)) = false := decide_eq_false (by omega)
  clear hc
  by_cases h : a < 1
  · have d2 : decide (a < 1) = true := decide_eq_true h
    clear ha h
    go_enter Tryd.func16, Tryd.ntmps16
    go_wp2
    go_ret2
    exact ⟨rfl, rfl⟩
  · have d2 : decide (a < 1) = false := decide_eq_false h
    have d3 : decide (4096 < a) = true := decide_eq_true (by omega)
    clear ha h
    go_enter Tryd.func16, Tryd.ntmps16
    go_wp2
    go_ret2
    exact ⟨rfl, rfl⟩
set_option maxHeartbeats 1000000 in
theorem refCounts_arg (v : Value) (f : Nat → Nat) (n : Nat) (a : Int) (w : World) (hv : Sl w v n (u32s f n)) (hn : n ≤ 4096) (ha : a < 1 ∨ 4096 < a) :
    Calls Tryd.prog 17 #[v, .int .i64 a] w fun e w' => e = .returned (.tuple #[.slice none 0 0, .int .i64 2]) ∧ w = w' := by
  obtain ⟨ad, c, rfl, hl1, hnc, hc⟩ := hv
  have d1 : decide (4096 < (n : Int)) = false := decide_eq_false (by omega)
  clear hc
  by_cases h : a < 1
  · have d2 : decide (a < 1) = true := decide_eq_true h
    clear ha h
    go_enter Tryd.func17, Tryd.ntmps17
    go_wp2
    go_ret2
    exact ⟨rfl, rfl⟩
  · have d2 : decide (a < 1) = false := decide_eq_false h
    have d3 : decide (4096 < a) = true := decide_eq_true (by omega)
    clear ha h
    go_enter Tryd.func17, Tryd.ntmps17
    go_wp2
    go_ret2
    exact ⟨rfl, rfl⟩
end Go.Proofs.YthlnhemdhlkhfaaDoor
