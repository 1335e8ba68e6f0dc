import Derived.Test.YthlnhemdhlkhfaaDoorD8
/- The program's Make. -/
namespace Go.Proofs.YthlnhemdhlkhfaaDoor
open Go.RowKit

theorem look_eq {W : World} {B : Nat} {es : Array MapEntry} {c : Nat} (hb : W.heap[B]? = some (.map es c)) (k : Int) {i : Nat} {v : Value} (hf : Instr.findNow (.int .i64) (.int .i64 k) es.toList 0 = some (some (i, v))) :
    (Instr.lookup 62 (.map (some B)) (.int .i64 k) false).run Tryd.prog W = .ok v W := by
  simp [Instr.lookup, run_underlying kind_map, MapKept.run_getObj_map hb, MapKept.run_checkKey kind_key (k := .int .i64 k) rfl, MapKept.run_findKey kind_key hf, Result.andThen]
theorem find_kind {k a r p s : Nat} (V : Vld k a r p s) : ∃ i, Instr.findNow (.int .i64) (.int .i64 k) kindsO.toList 0 = some (some (i, FV (kindF k))) := by
  rcases V.k6 with ⟨rfl, h⟩ | ⟨rfl, h⟩ | ⟨rfl, h⟩ | ⟨rfl, h⟩ | ⟨rfl, h⟩ | ⟨rfl, h⟩
  · exact ⟨_, rfl⟩
  · exact ⟨_, rfl⟩
  · exact ⟨_, rfl⟩
  · exact ⟨_, rfl⟩
  · exact ⟨_, rfl⟩
  · exact ⟨_, rfl⟩
theorem vld_of {k a r p s : Nat} (V : Vld k a r p s) : vldL k a r p s = true := by
  have h1 := V.s64; have h2 := V.a1; have h3 := V.a2; have h4 := V.r2
  rw [vld_in (by omega)]
  rcases V.k6 with ⟨rfl, h⟩ | ⟨rfl, h⟩ | ⟨rfl, h⟩ | ⟨rfl, h⟩ | ⟨rfl, h⟩ | ⟨rfl, h⟩ <;> unfold vldK <;> simp <;> omega
theorem ownsRow_blk {w w' : World} {g : Nat} (hg : w'.heap[g]? = w.heap[g]?) {base : Nat} {e : TypeId} {size : Nat} {n m c : Nat} {xs : List Value} (h : w.ownsRow base e size (.slice (some ⟨g, 0, none⟩) m c) n xs) : w'.ownsRow base e size (.slice (some ⟨g, 0, none⟩) m c) n xs := by
  refine ⟨h.1, ?_⟩
  rcases h.2 with h2 | ⟨g2, cap, cur, hv, hb1, hg2, r⟩
  · exact Or.inl h2
  · injection hv with h1 h2 h3
    injection h1 with h1
    injection h1 with h1
    subst h1
    exact Or.inr ⟨_, cap, cur, by rw [h2, h3], hb1, hg.trans hg2, r⟩
set_option maxRecDepth 100000 in
set_option maxHeartbeats 2000000 in
theorem make_bad (k a r p : Int) (s : Nat) (h : vldL k a r p s = false) (w : World) : Calls Tryd.prog 13 #[(.agg #[.int .i64 (k), .int .i64 (a), .int .i64 (r), .int .i64 (p), .int .u64 (s)])] w fun e w' => e = .returned (.tuple #[.slice none 0 0, .int .i64 2]) ∧ Ext w w' := by
  have hx : Ext w (w.alloc (.cells #[.int .i64 (k), .int .i64 (a), .int .i64 (r), .int .i64 (p), .int .u64 (s)] 28)) := Ext.alloc (Below.refl _ _) _
  have cv : Box _ := ⟨fun w => gvalid_any k a r p s w⟩
  rw [h] at cv
  clear h
  go_enter Tryd.func13, Tryd.ntmps13
  go_wp2_with (first | (go_at_call 11; (with_reducible refine (cv.out _).mono ?_); rintro e w1 ⟨rfl, hb⟩; have hx := Ext.trans' hx hb))
  go_ret2
  exact ⟨rfl, hx⟩
theorem cnt_zero (k p : Nat) : cntL k p 0 = 0 := by unfold cntL; simp
theorem kind_call {k a r p s : Nat} (V : Vld k a r p s) : ∀ args w, (callFunc (kindF k) args).run Tryd.prog w = .ok (.enter (kindF k) args) w := by
  rcases V.k6 with ⟨rfl, h⟩ | ⟨rfl, h⟩ | ⟨rfl, h⟩ | ⟨rfl, h⟩ | ⟨rfl, h⟩ | ⟨rfl, h⟩
  · exact fun args w => Tryd.call39 args w
  · exact fun args w => Tryd.call40 args w
  · exact fun args w => Tryd.call41 args w
  · exact fun args w => Tryd.call42 args w
  · exact fun args w => Tryd.call43 args w
  · exact fun args w => Tryd.call44 args w
/-- The list when t keys are made. -/
def outF (f : Nat → Nat) (t i : Nat) : Nat := if i < t then f i else 0
theorem made_u32 (f : Nat → Nat) (n : Nat) : (madeCells (Value.int .u32 0).cells (n * 1)).toList = u32s (outF f 0) n := by
  rw [Nat.mul_one, show (Value.int .u32 0).cells = #[.int .u32 0] from rfl, toList_madeCells_one]
  apply List.ext_getElem (by simp [u32s])
  intro i h1 h2
  simp [u32s, outF]
theorem out_set (f : Nat → Nat) (n t : Nat) : (u32s (outF f t) n).set t (.int .u32 (f t)) = u32s (outF f (t + 1)) n := by
  apply List.ext_getElem (by simp [u32s])
  intro i h1 h2
  rw [List.getElem_set]
  by_cases h : t = i
  · subst h; simp [u32s, outF]
  · rw [if_neg h]
    have : (i < t) = (i < t + 1) := by apply propext; omega
    simp [u32s, outF, this]
theorem out_full (f : Nat → Nat) (n : Nat) : u32s (outF f n) n = u32s f n := by
  apply List.ext_getElem (by simp [u32s])
  intro i h1 h2
  have : i < n := by simpa [u32s] using h1
  simp [u32s, outF, this]
set_option maxRecDepth 100000 in
set_option maxHeartbeats 4000000 in
theorem make_any {k a r p s : Nat} (V : Vld k a r p s) (w : World) : Calls Tryd.prog 13 #[(.agg #[.int .i64 (k), .int .i64 (a), .int .i64 (r), .int .i64 (p), .int .u64 (s)])] w fun e w' => ∃ v, e = .returned (.tuple #[v, .int .i64 0]) ∧ Sl w' v r (u32s (keyL k a r p s) r) ∧ Ext w w' := by
  obtain ⟨i0, hi, hz0, hz1, hz2⟩ := info_parts infoU32
  have hr := V.r2
  have ha := V.a2
  have hV := Box.mk V
  have cv : Box _ := ⟨fun w => gvalid_any k a r p s w⟩
  rw [vld_of V] at cv
  have cs : Box _ := ⟨fun w => start_any s w V.s64⟩
  have hx : Ext w (w.alloc (.cells #[.int .i64 (k), .int .i64 (a), .int .i64 (r), .int .i64 (p), .int .u64 (s)] 28)) := Ext.alloc (Below.refl _ _) _
  have hB := newblk w (.cells #[.int .i64 (k), .int .i64 (a), .int .i64 (r), .int .i64 (p), .int .u64 (s)] 28)
  clear V
  go_enter Tryd.func13, Tryd.ntmps13
  go_wp2_with (first | (go_at_call 11; (with_reducible refine (cv.out _).mono ?_); rintro e w1 ⟨rfl, hb⟩; have hx := Ext.trans' hx hb; have hB := Ext.blk hb hB; clear hb; obtain ⟨m0, m1, m2, m3, m4⟩ := blk5 hB))
  go_region_held3 (fun w' => w'.cell? ⟨w.heap.size, 0, none⟩ = some (.int .i64 k) ∧ w'.cell? ⟨w.heap.size, 1, none⟩ = some (.int .i64 a) ∧ w'.cell? ⟨w.heap.size, 2, none⟩ = some (.int .i64 r) ∧ w'.cell? ⟨w.heap.size, 3, none⟩ = some (.int .i64 p) ∧ w'.cell? ⟨w.heap.size, 4, none⟩ = some (.int .u64 s))
    (first
      | go_keep
      | (exact ⟨m0, m1, m2, m3, m4⟩))
    (first
      | (go_at_call 23; (with_reducible refine (cs.out _).mono ?_); rintro e w' ⟨rfl, rfl⟩))
  go_wp2
  have hM : MK w1.heap.size k a r p s (num s 0) ((w1.alloc (.cells #[.int .i64 (k), .int .i64 (a), .int .i64 (r), .int .i64 (p), .int .u64 (s), .int .u64 (num s 0)] 60)).drew) := newblk w1 _
  have hx2 : Ext w1 ((w1.alloc (.cells #[.int .i64 (k), .int .i64 (a), .int .i64 (r), .int .i64 (p), .int .u64 (s), .int .u64 (num s 0)] 60)).drew) := Ext.drewN (Ext.alloc (Below.refl _ _) _) 1
  have hsz : w1.heap.size < ((w1.alloc (.cells #[.int .i64 (k), .int .i64 (a), .int .i64 (r), .int .i64 (p), .int .u64 (s), .int .u64 (num s 0)] 60)).drew).heap.size := blk_lt hM
  have hwM := blk_lt hB
  have hB := Ext.blk hx2 hB
  have hx := Ext.trans' hx hx2
  clear m0 m1 m2 m3 m4 hx2 cv cs
  generalize (w1.alloc (.cells #[.int .i64 (k), .int .i64 (a), .int .i64 (r), .int .i64 (p), .int .u64 (s), .int .u64 (num s 0)] 60)).drew = w2 at *
  obtain ⟨ix, hfk⟩ := find_kind hV.out
  have c3 : Box (Calls Tryd.prog 27 #[] w2.drew fun e w' => e = .returned (.map (some w2.heap.size)) ∧ (Instr.lookup 62 (.map (some w2.heap.size)) (.int .i64 k) false).run Tryd.prog w' = .ok (.func (.func (kindF k)) #[] #[]) w' ∧ Ext w2 w') := ⟨(kinds_any w2.drew).mono fun e w' h => ⟨h.1, look_eq h.2.1 k hfk, Ext.trans' (Ext.drewN (Below.refl _ _) 1) h.2.2⟩⟩
  obtain ⟨m0, -⟩ := blk5 hB
  obtain ⟨K, hK⟩ : ∃ K, K = kindF k := ⟨_, rfl⟩
  have hKb := Box.mk hK
  have hcf := kind_call hV.out
  rw [← hK] at c3 hcf
  clear hK hfk
  go_region_held3 (fun w' => w'.cell? ⟨w.heap.size, 0, none⟩ = some (.int .i64 k))
    (first
      | go_keep
      | (exact m0))
    (first
      | (go_at_call 27; (with_reducible refine (c3.out).mono ?_); rintro e w3 ⟨rfl, hlk, hb3⟩; have m0 := hb3.cell m0))
  have hM := Ext.blk hb3 hM
  have hx := Ext.trans' hx hb3
  have hB := Ext.blk hb3 hB
  have hM3 : w1.heap.size < w3.heap.size := Nat.lt_of_lt_of_le hsz hb3.size
  obtain ⟨-, -, m2, -⟩ := blk5 hB
  generalize w1.heap.size = M at *
  have hwM2 : w.heap.size ≤ M := Nat.le_of_lt hwM
  clear hsz hlk hb3 hwM m0
  have HM := Box.mk hM
  have HX := Box.mk hx
  clear hM hx hB
  go_wp2_with (first
    | (at_make; refine wpList_make_full _ rfl _ _ 30 rfl w3.heap.size 56 i0 (.int .u32 0) 1 Tryd.underlying30 hi hz0 hz1 .i64 .i64 _ _ r rfl rfl rfl rfl (by rw [hz2]; omega) (by unfold maxLen; omega) (Nat.le_refl _) ?_; intro w4 hown hgrow; have hb4 := Below.grown (Below.refl w3.heap.size w3) hgrow (Nat.le_refl _) (fun j hj => by cases hj)))
  have hx4 := Ext.trans' HX.out hb4
  have hM4 := Ext.blk hb4 HM.out
  rw [made_u32 (keyL k a r p s) r] at hown
  have hown := Box.mk hown
  have hwO : w.heap.size ≤ w3.heap.size := HX.out.size
  generalize w3.heap.size = O at *
  clear hgrow hb4 HX HM m2
  go_loopw [26] (fun i wr => ∃ t : Nat, t ≤ r ∧ i = .int .i64 t ∧ Box (MK M k a r p s (num s (cntL k p t)) wr) ∧ Box (wr.ownsRow O 56 1 (.slice (some ⟨O, 0, none⟩) r r) r (u32s (outF (keyL k a r p s) t) r)) ∧ Box (Ext w wr)) (fun i _ => r - (intOf i).toNat)
  case atStart => exact ⟨0, by omega, rfl, ⟨by rw [cnt_zero]; exact hM4⟩, hown, ⟨hx4⟩⟩
  case round =>
    obtain ⟨t, ht, rfl, hMt, hot, hxt⟩ := hrel
    by_cases htr : t < r
    · have c1 := Box.mk (mkey_any hV.out M t htr _ hMt.out)
      unfold KeyPost at c1
      have hk := keyL_lt hV.out htr
      have hset := Box.mk (out_set (keyL k a r p s) r t)
      rw [← hKb.out] at c1
      generalize keyL k a r p s t = q at *
      have u1 : IntKind.u32.wrap (q : Int) = q := by rw [IntKind.wrap_u32]; omega
      go_wp2_with (first | ((with_reducible refine (c1.out).mono ?_); rintro e w5 ⟨rfl, hM5, hN5⟩; have ho5 := ownsRow_blk (hN5.other O (by omega)) hot.out; have hf5 := ho5.frozenAt t; have hs5 := Box.mk (ho5.stored t (.int .u32 q)).1; have hx5 := Box.mk (hN5.ext w hwM2 hxt.out); have hc5 := (ho5.cellAt t (by simp [u32s]; omega)).trans (u32s_at _ htr); clear ho5))
      rw [hset.out] at hs5
      have hK5 : Box (MK M k a r p s (num s (cntL k p (t + 1))) (w5.setCell ⟨O, t, none⟩ (.int .u32 q))) := ⟨(heap_setCell_other w5 ⟨O, t, none⟩ M _ (by show M ≠ O; omega)).trans hM5⟩
      go_roundw
      case rel => exact ⟨t + 1, by omega, by go_num, hK5, hs5, ⟨Below.setCell hx5.out (p := ⟨O, t, none⟩) hwO _⟩⟩
      case measure => simp [intOf]; omega
    · obtain rfl : t = r := by omega
      have hfu := Box.mk (out_full (keyL k a t p s) t)
      go_wp2
      go_ret2
      refine ⟨_, rfl, ?_, hxt.out⟩
      rw [← hfu.out]
      exact Sl.owns hot.out (by omega)
end Go.Proofs.YthlnhemdhlkhfaaDoor
