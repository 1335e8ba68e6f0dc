import Derived.Test.YtfobbhphcgomgaaW8
import Derived.Sort.QuietTacIn
import Derived.Sort.QuietIn
/- WordSets: the lowest lane, the number and all lanes of a set, also in a loop that is left early, and again. -/
namespace Go.Proofs.Ytfobbhphcgomgaa
open Go.RowKit Go.Shelf

attribute [local go_sem] Oper.semAt_some

theorem count_len : ∀ S, S < 256 → Lib.onesCount S = (bitsTo S 8).length := by decide +kernel
theorem first_head : ∀ S, S < 256 → Lib.trailingZeros8 S = ((bitsTo S 8).head?).getD 8 := by decide +kernel

/-- Between two rounds: what has come is a beginning of the list, the counter holds how many, and nothing below the counter has turned. -/
def InSets (L : List Nat) (lim : List Nat → Prop) (Bk : Nat) (Wk : World) (pre : List Nat) (W : World) : Prop :=
  (pre <+: L ∧ lim pre ∧ W.cell? ⟨Bk, 0, none⟩ = some (.int .i64 pre.length) ∧ W.frozen? ⟨Bk, 0, none⟩ = false) ∧ Below Bk Wk W
theorem inSets_own (L : List Nat) (lim : List Nat → Prop) (Bk : Nat) (Wk : World) (B : Nat) (h1 : Bk ≤ Wk.heap.size) (h2 : Bk ≤ B) : OwnFrom B (InSets L lim Bk Wk) := by
  refine OwnFrom.and ?_ (ownFrom_below h1 h2)
  exact Own.from (fun s A B row hs hg hr => ⟨hs.1, hs.2.1, cell_kept hs.2.2.1 hg hr, (frozen_kept hs.2.2.1 hg hr).trans hs.2.2.2⟩) _
/-- A round is left: by a return (what came was no part of the list), or by the break. -/
def OutSets (L : List Nat) (lim : List Nat → Prop) (Bk : Nat) (Wk : World) (c : Code) (pre : List Nat) (W : World) : Prop :=
  (c = .ret ∧ ¬ pre <+: L) ∨ (c = .exit 2 ∧ InSets L lim Bk Wk pre W)
theorem outSets_own (L : List Nat) (lim : List Nat → Prop) (Bk : Nat) (Wk : World) (B : Nat) (h1 : Bk ≤ Wk.heap.size) (h2 : Bk ≤ B) (c : Code) : OwnFrom B (OutSets L lim Bk Wk c) := by
  rintro s A C row (h | ⟨hc, h⟩) hg hr
  · exact .inl h
  · exact .inr ⟨hc, inSets_own L lim Bk Wk B h1 h2 s A C row h hg hr⟩
theorem prefix_snoc (pre L : List Nat) (x : Nat) (h : pre <+: L) : pre ++ [x] <+: L ↔ L[pre.length]? = some x := by
  obtain ⟨r, rfl⟩ := h
  rw [List.prefix_append_right_inj]
  rcases r with _ | ⟨y, ys⟩ <;> simp [List.cons_prefix_cons, eq_comm]
theorem keepCell {T W : World} {X : Obj} {b o : Nat} {v : Value} (h : T.cell? ⟨b, o, none⟩ = some v) (hB : Below T.heap.size (T.alloc X) W) : W.cell? ⟨b, o, none⟩ = some v := by
  have hlt := lt_of_cell h
  exact (hB.cell (p := ⟨b, o, none⟩) hlt).trans ((World.cell?_alloc_past (w := T) X b o hlt).trans h)
theorem keepFrozen {T W : World} {X : Obj} {b o : Nat} {v : Value} (h : T.cell? ⟨b, o, none⟩ = some v) (hf : T.frozen? ⟨b, o, none⟩ = false) (hB : Below T.heap.size (T.alloc X) W) : W.frozen? ⟨b, o, none⟩ = false := by
  have hlt := lt_of_cell h
  rw [hB.frozen (p := ⟨b, o, none⟩) hlt]
  exact (Below.frozen ((Below.refl T.heap.size T).alloc (Nat.le_refl _) X) (p := ⟨b, o, none⟩) hlt).trans hf
theorem three_cells (w : World) (x y z : Value) (t1 t2 t3 : TypeId) (q : Nat) :
    ((((w.alloc (.cells #[x] t1)).alloc (.cells #[y] t2)).drewN q).alloc (.cells #[z] t3)).cell? ⟨w.heap.size, 0, none⟩ = some x ∧
    ((((w.alloc (.cells #[x] t1)).alloc (.cells #[y] t2)).drewN q).alloc (.cells #[z] t3)).cell? ⟨w.heap.size + 1, 0, none⟩ = some y ∧
    ((((w.alloc (.cells #[x] t1)).alloc (.cells #[y] t2)).drewN q).alloc (.cells #[z] t3)).cell? ⟨w.heap.size + 1 + 1, 0, none⟩ = some z := by
  refine ⟨?_, ?_, ?_⟩ <;> go_simp
theorem prefix_len (pre L : List Nat) (h : pre <+: L) : pre.length ≤ L.length := h.length_le

set_option maxRecDepth 100000 in
set_option maxHeartbeats 2000000 in
theorem wordSets_walk (S : Nat) (hS : S < 256) (many : Int) (w : World) (hm0 : -9223372036854775808 ≤ many) (hm1 : many ≤ 9223372036854775807) :
    Calls Try.prog 5 #[.int .u8 S, .int .i64 many] w fun e w' => e = .returned (.bool true) ∧ Below w.heap.size w w' := by
  refine (callsIn_wide (n := 3)).1 ?_
  have h1 : 1 ≤ 3 := by omega
  have hq := seq_not_nil
  have HL : Box (∀ w, Calls Try.prog 16 #[.int .u8 S] w fun e w' => ∃ v, e = .returned v ∧ w'.ownsRow w.heap.size 3 1 v (bitsTo S 8).length (ints (bitsTo S 8)) ∧ Below w.heap.size w w') := ⟨fun w => by simpa using refLanes_any S w (by omega) (by omega)⟩
  have HF : Box (∀ w, Calls Try.prog 18 #[.int .u8 S] w fun e w' => e = .returned (.int .i64 (((bitsTo S 8).head?).getD 8 : Nat)) ∧ w' = w) := ⟨fun w => (first_any S w (by omega) (by omega)).mono fun e w' ⟨h, h'⟩ => ⟨by rw [h, Int.toNat_natCast, first_head S hS], h'.symm⟩⟩
  have HC : Box (∀ w, Calls Try.prog 19 #[.int .u8 S] w fun e w' => e = .returned (.int .i64 ((bitsTo S 8).length : Nat)) ∧ w' = w) := ⟨fun w => (count_any S w (by omega) (by omega)).mono fun e w' ⟨h, h'⟩ => ⟨by rw [h, Int.toNat_natCast, count_len S hS], h'.symm⟩⟩
  have hl8 := bitsTo_len S 8
  have HA : Box (∀ (Bn : Nat) (w : World), Bn < w.heap.size → w.cell? ⟨Bn, 0, none⟩ = some (.int .u8 S) → SeqStopsK Fence.wide 2 Try.prog 30 #[.pointer (some ⟨Bn, 0, none⟩)] (fun x : Nat => #[Value.int .i64 x]) KeepsWalks (fun ys => ys = bitsTo S 8) (fun pre => pre <+: bitsTo S 8) (bitsTo S 8).length w) := ⟨fun Bn w h h' => all_stops 2 (by decide) Bn S hS w h h'⟩
  generalize bitsTo S 8 = L at *
  refine callsIn_of_wp_marks Try.func5 rfl trivial ?_ rfl
  simp only [Try.ntmps5, List.size_toArray, List.length_cons, List.length_nil, Nat.reduceAdd, Nat.reduceSub, Array.replicate_succ, Array.replicate_zero, List.push_toArray, List.append_toArray, List.nil_append, List.cons_append]
  gi_wp2_with (fail)
  refine ⟨trivial, ?_⟩
  refine (callsIn_wide.2 (HL.out _)).mono ?_
  rintro e w1 ⟨v, rfl, hrow, hb1⟩
  obtain ⟨a, c, rfl, hlen, hnc, hcells⟩ := Sl.owns hrow (by omega)
  clear HL
  simp only [World.size_alloc] at hb1 hrow
  have hB1 : Below w.heap.size w w1 := (((Below.refl _ _).alloc (Nat.le_refl _) _).alloc (by simp) _).trans (hb1.mono (by omega))
  have hsz1 : w.heap.size + 1 + 1 ≤ w1.heap.size := by have := hb1.size; simp at this; omega
  have hmany : w1.cell? ⟨w.heap.size, 0, none⟩ = some (.int .i64 many) := (hb1.cell (p := ⟨w.heap.size, 0, none⟩) (by simp; omega)).trans (by simp)
  have hres : w1.cell? ⟨w.heap.size + 1, 0, none⟩ = some (.bool false) := (hb1.cell (p := ⟨w.heap.size + 1, 0, none⟩) (by simp)).trans (by simp)
  have hresf : w1.frozen? ⟨w.heap.size + 1, 0, none⟩ = false := (hb1.frozen (p := ⟨w.heap.size + 1, 0, none⟩) (by simp)).trans (by simp)
  have Hrow : Box _ := ⟨hrow⟩
  have Hcells : Box _ := ⟨hcells⟩
  clear hrow hcells hb1
  obtain ⟨f, hf⟩ : ∃ f, (L.head?).getD 8 = f := ⟨_, rfl⟩
  rw [hf] at HF
  have hfb : Box _ := ⟨hf⟩
  clear hf
  generalize hn : L.length = n at *
  have Hn : Box _ := ⟨hn⟩
  clear hn
  clear hm0 hm1
  by_cases hL : 0 < n
  case pos =>
    obtain ⟨b0, o0, rfl, hc0⟩ := Hcells.out 0 (.int .i64 f) (by have := Hn.out; have h2 := hfb.out; rcases L with _ | ⟨x, xs⟩ <;> simp [ints] at * <;> omega)
    rw [Nat.add_zero] at hc0
    have hlt0 := lt_of_cell hc0
    gi_wp2_with (refine ⟨trivial, ?_⟩; gi_at_call 17; refine (callsIn_wide.2 (all_any _ _)).mono ?_; rintro e w' ⟨rfl, rfl⟩)
    have hwide : ∀ f, Fence.wide.fn f := fun _ => trivial
    gi_quiet_th (first | (gi_at_call 18; exact CallsIn.quiet_of_same (callsIn_wide.2 (HF.out _))) | (gi_at_call 19; exact CallsIn.quiet_of_same (callsIn_wide.2 (HC.out _))))
    gi_wp2
    clear hc0 hlt0 hwide
    generalize (some ({ block := b0, off := o0 } : Addr)) = a at *

    obtain ⟨W0, hW0⟩ : ∃ W0, ((((w1.alloc (.cells #[.slice a n c] 37)).alloc (.cells #[.int .u8 S] 5)).drewN nq).alloc (.cells #[.int .i64 0] 3)) = W0 := ⟨_, rfl⟩
    rw [hW0]
    have hB01 : Below w1.heap.size w1 W0 := by rw [← hW0]; exact (below_drewN (((Below.refl _ _).alloc (Nat.le_refl _) _).alloc (by simp) _) _).alloc (by simp; omega) _
    have s_W0 : Box (w1.heap.size + 1 + 1 < W0.heap.size) := ⟨by rw [← hW0]; simp⟩
    have cm_W0 : W0.cell? ⟨w.heap.size, 0, none⟩ = some (.int .i64 many) := (hB01.cell (p := ⟨w.heap.size, 0, none⟩) (by show w.heap.size < _; omega)).trans hmany
    have cr_W0 : W0.cell? ⟨w.heap.size + 1, 0, none⟩ = some (.bool false) := (hB01.cell (p := ⟨w.heap.size + 1, 0, none⟩) (by show w.heap.size + 1 < _; omega)).trans hres
    have crf_W0 : W0.frozen? ⟨w.heap.size + 1, 0, none⟩ = false := (hB01.frozen (p := ⟨w.heap.size + 1, 0, none⟩) (by show w.heap.size + 1 < _; omega)).trans hresf
    have cw_W0 : W0.cell? ⟨w1.heap.size, 0, none⟩ = some (.slice a n c) := by rw [← hW0]; exact (three_cells _ _ _ _ _ _ _ _).1
    have cs_W0 : W0.cell? ⟨w1.heap.size + 1, 0, none⟩ = some (.int .u8 S) := by rw [← hW0]; exact (three_cells _ _ _ _ _ _ _ _).2.1
    have ct_W0 : W0.cell? ⟨w1.heap.size + 1 + 1, 0, none⟩ = some (.int .i64 0) := by rw [← hW0]; exact (three_cells _ _ _ _ _ _ _ _).2.2
    have Hc_W0 : Box (CellsAt W0 a (ints L)) := ⟨Hcells.out.ext hB01⟩
    have B_W0 : Below w.heap.size w W0 := hB1.trans (hB01.mono (by omega))
    clear hW0 hmany hres hresf Hcells Hrow hB1 hB01
    refine wpIn_loop_rounds 3 ?_
    rw [roundsIn_succ]
    gi_wp2
    refine wpIn_rangeFunc_ownG rfl h1 (gf := 30) (lb := #[.pointer (some ⟨w1.heap.size + 1, 0, none⟩)]) rfl trivial (enters_of Try.func30 (by kernel_rfl) rfl)
      (HA.out (w1.heap.size + 1) _ (by have := s_W0.out; simp; omega) (keepCell cs_W0 (Below.refl _ _))) walksK_t walksK_b (Below.refl _ _) (fun _ => rfl)
      (InSets L (fun pre => pre = [] ∨ (pre.length : Int) < many) W0.heap.size (W0.alloc (.cells #[.int .i64 0] 3)))
      (OutSets L (fun pre => 1 ≤ pre.length ∧ many ≤ pre.length ∧ (pre.length = 1 ∨ (pre.length : Int) - 1 < many)) W0.heap.size (W0.alloc (.cells #[.int .i64 0] 3)))
      (inSets_own _ _ _ _ _ (by simp) (by simp)) (outSets_own _ _ _ _ _ (by simp) (by simp))
      ⟨⟨List.nil_prefix, .inl rfl, by rw [World.cell?_alloc_new]; rfl, by simp⟩, Below.refl _ _⟩
      _ (fun l x W K hK => by gi_wp2; exact hK) ?body ?done ?stop
    case body =>
      rintro l pre x W ⟨⟨hp, hlim, hck, hfk⟩, hB⟩ hlt
      have cmW := keepCell cm_W0 hB
      have cwW := keepCell cw_W0 hB
      have ctW := keepCell ct_W0 hB
      have crW := keepCell cr_W0 hB
      have crfW := keepFrozen cr_W0 crf_W0 hB
      obtain ⟨y, hy⟩ : ∃ y, L[pre.length]? = some y := ⟨L[pre.length]'(by have := Hn.out; omega), by simp⟩
      obtain ⟨b0, o0, rfl, hcy⟩ := Hc_W0.out pre.length (.int .i64 y) (by simp [ints, hy])
      have hcyW := keepCell hcy hB
      have l0 := lt_of_cell cm_W0
      have l1 := lt_of_cell cr_W0
      have l2 := lt_of_cell cw_W0
      have l3 := lt_of_cell ct_W0
      have l4 := lt_of_cell hcy
      have ne0 : w.heap.size ≠ W0.heap.size := by omega
      have ne1 : w.heap.size + 1 ≠ W0.heap.size := by omega
      have ne2 : w1.heap.size ≠ W0.heap.size := by omega
      have ne3 : w1.heap.size + 1 + 1 ≠ W0.heap.size := by omega
      have ne4 : b0 ≠ W0.heap.size := by omega
      clear l0 l1 l2 l3 l4
      by_cases hxy : x = y
      · subst hxy
        by_cases hmk : many ≤ (pre.length : Int) + 1
        · have hmk1 : ((pre.length : Int) + 1 ≥ many) := hmk
          gi_wp2
          exact ⟨(KeepsOthers.setCell _ _ _).from _, .inr ⟨rfl, ⟨⟨(prefix_snoc pre L x hp).2 hy, ⟨by simp, by simp; omega, by rcases hlim with rfl | h <;> simp <;> omega⟩, (World.cell?_setCell_same' _ _ _ (by rw [hck]; rfl)).trans (by simp), by rw [World.frozen?_setCell]; exact hfk⟩, hB.setCell (p := ⟨W0.heap.size, 0, none⟩) (Nat.le_refl _) _⟩⟩⟩
        · have hmk1 : ¬ ((pre.length : Int) + 1 ≥ many) := hmk
          gi_wp2
          exact ⟨(KeepsOthers.setCell _ _ _).from _, (KeepsOthers.setCell _ _ _).walks, ⟨(prefix_snoc pre L x hp).2 hy, .inr (by simp; omega), (World.cell?_setCell_same' _ _ _ (by rw [hck]; rfl)).trans (by simp), by rw [World.frozen?_setCell]; exact hfk⟩, hB.setCell (p := ⟨W0.heap.size, 0, none⟩) (Nat.le_refl _) _⟩
      · have hne : ((x : Int) != (y : Int)) = true := by rw [bne_iff_ne]; omega
        gi_wp2
        exact ⟨(KeepsOthers.setCell _ _ _).from _, .inl ⟨rfl, fun h => by rw [prefix_snoc pre L x hp, hy] at h; cases h; exact hxy rfl⟩⟩
    case done =>
      rintro D L W hD rfl ⟨⟨hp, hlim, hck, hfk⟩, hB⟩ hK
      have cmW := keepCell cm_W0 hB
      have cwW := keepCell cw_W0 hB
      have ctW := keepCell ct_W0 hB
      have crW := keepCell cr_W0 hB
      have crfW := keepFrozen cr_W0 crf_W0 hB
      have csW := keepCell cs_W0 hB
      rw [Hn.out] at hck
      have Hlim : Box (n = 0 ∨ (n : Int) < many) := ⟨by rw [← Hn.out]; rcases hlim with h | h; exact .inl (by rw [h]; rfl); exact .inr h⟩
      clear hlim hp
      have hne : ((n : Int) != min (n : Int) (max 1 many)) = false := by rw [bne_eq_false_iff_eq]; rcases Hlim.out with h | h <;> omega
      gi_wp2
      clear hne
      have e0 : Ext W0 W := ((Below.refl W0.heap.size W0).alloc (Nat.le_refl _) _).trans hB
      clear cmW cwW ctW crW crfW csW hB hck hfk
      obtain ⟨W2, hW2⟩ : ∃ W2, W.alloc (.cells #[.int .i64 1] 3) = W2 := ⟨_, rfl⟩
      rw [hW2]
      have e2 : Ext W0 W2 := by rw [← hW2]; exact e0.alloc _
      have s_W2 : Box (w1.heap.size + 1 + 1 < W2.heap.size) := ⟨Nat.lt_of_lt_of_le s_W0.out e2.size⟩
      have cm_W2 := e2.cell cm_W0
      have cr_W2 := e2.cell cr_W0
      have crf_W2 : W2.frozen? ⟨w.heap.size + 1, 0, none⟩ = false := (Below.frozen e2 (p := ⟨w.heap.size + 1, 0, none⟩) (lt_of_cell cr_W0)).trans crf_W0
      have cw_W2 := e2.cell cw_W0
      have cs_W2 := e2.cell cs_W0
      have ct_W2 : W2.cell? ⟨W.heap.size, 0, none⟩ = some (.int .i64 1) := by rw [← hW2, World.cell?_alloc_new]; rfl
      have Hc_W2 : Box (CellsAt W2 a (ints L)) := ⟨Hc_W0.out.ext e2⟩
      have B_W2 : Below w.heap.size w W2 := B_W0.trans (e2.mono B_W0.size)
      have HK : Box (W2.heap[D]? = some (.deferred (some []))) := ⟨by rw [← hW2]; exact (Below.heap_alloc _ _ _ (Array.getElem?_eq_some_iff.1 hK).1).trans hK⟩
      have B_W0' : Box (w.heap.size ≤ W0.heap.size) := ⟨B_W0.size⟩
      clear hW2 hK cm_W0 cr_W0 crf_W0 cw_W0 cs_W0 ct_W0 Hc_W0 B_W0 s_W0 e0 e2
      rw [roundsIn_succ]
      gi_wp2
      refine wpIn_rangeFunc_ownG rfl h1 (gf := 30) (lb := #[.pointer (some ⟨w1.heap.size + 1, 0, none⟩)]) rfl trivial (enters_of Try.func30 (by kernel_rfl) rfl)
        (HA.out (w1.heap.size + 1) _ (by have := s_W2.out; simp; omega) (keepCell cs_W2 (Below.refl _ _))) walksK_t walksK_b (Below.refl _ _) (fun _ => rfl)
        (InSets L (fun _ => True) W2.heap.size (W2.alloc (.cells #[.int .i64 0] 3)))
        (OutSets L (fun _ => False) W2.heap.size (W2.alloc (.cells #[.int .i64 0] 3)))
        (inSets_own _ _ _ _ _ (by simp) (by simp)) (outSets_own _ _ _ _ _ (by simp) (by simp))
        ⟨⟨List.nil_prefix, trivial, by rw [World.cell?_alloc_new]; rfl, by simp⟩, Below.refl _ _⟩
        _ (fun l x W K hK => by gi_wp2; exact hK) ?body2 ?done2 ?stop2
      case body2 =>
        rintro l pre x V ⟨⟨hp, hlim, hck, hfk⟩, hB⟩ hlt
        have cmW := keepCell cm_W2 hB
        have cwW := keepCell cw_W2 hB
        have ctW := keepCell ct_W2 hB
        have crW := keepCell cr_W2 hB
        have crfW := keepFrozen cr_W2 crf_W2 hB
        obtain ⟨y, hy⟩ : ∃ y, L[pre.length]? = some y := ⟨L[pre.length]'(by have := Hn.out; omega), by simp⟩
        obtain ⟨b0, o0, rfl, hcy⟩ := Hc_W2.out pre.length (.int .i64 y) (by simp [ints, hy])
        have hcyW := keepCell hcy hB
        have l0 := lt_of_cell cm_W2
        have l1 := lt_of_cell cr_W2
        have l2 := lt_of_cell cw_W2
        have l3 := lt_of_cell ct_W2
        have l4 := lt_of_cell hcy
        have ne0 : w.heap.size ≠ W2.heap.size := by omega
        have ne1 : w.heap.size + 1 ≠ W2.heap.size := by omega
        have ne2 : w1.heap.size ≠ W2.heap.size := by omega
        have ne3 : W.heap.size ≠ W2.heap.size := by omega
        have ne4 : b0 ≠ W2.heap.size := by omega
        have hbx : True := trivial
        clear hbx l0 l1 l2 l3 l4
        by_cases hxy : x = y
        · subst hxy
          gi_wp2
          exact ⟨(KeepsOthers.setCell _ _ _).from _, (KeepsOthers.setCell _ _ _).walks, ⟨(prefix_snoc pre L x hp).2 hy, trivial, (World.cell?_setCell_same' _ _ _ (by rw [hck]; rfl)).trans (by simp), by rw [World.frozen?_setCell]; exact hfk⟩, hB.setCell (p := ⟨W2.heap.size, 0, none⟩) (Nat.le_refl _) _⟩
        · have hne : ((x : Int) != (y : Int)) = true := by rw [bne_iff_ne]; omega
          gi_wp2
          exact ⟨(KeepsOthers.setCell _ _ _).from _, .inl ⟨rfl, fun h => by rw [prefix_snoc pre L x hp, hy] at h; cases h; exact hxy rfl⟩⟩
      case done2 =>
        rintro D2 L V hD2 rfl ⟨⟨hp, hlim, hck, hfk⟩, hB⟩ hK2
        have cmW := keepCell cm_W2 hB
        have cwW := keepCell cw_W2 hB
        have ctW := keepCell ct_W2 hB
        have crW := keepCell cr_W2 hB
        have crfW := keepFrozen cr_W2 crf_W2 hB
        have csW := keepCell cs_W2 hB
        rw [Hn.out] at hck
        have e3 : Ext W2 V := ((Below.refl W2.heap.size W2).alloc (Nat.le_refl _) _).trans hB
        have hne : ((n : Int) != (n : Int)) = false := by simp
        gi_wp2
        rw [roundsIn_succ]
        gi_wp2_with fail
        refine ⟨trivial, ?_⟩
        refine (callsIn_wide.2 (known_any _)).mono ?_
        rintro e V2 ⟨rfl, hbk⟩
        have e4 : Ext W2 V2 := Ext.trans' (e3.alloc _) hbk
        have cr_V2 := e4.cell cr_W2
        have crf_V2 : V2.frozen? ⟨w.heap.size + 1, 0, none⟩ = false := (Below.frozen e4 (p := ⟨w.heap.size + 1, 0, none⟩) (lt_of_cell cr_W2)).trans crf_W2
        have HK1 : Box (V2.heap[D]? = some (.deferred (some []))) := ⟨(e4.block D (Array.getElem?_eq_some_iff.1 HK.out).1).trans HK.out⟩
        have HK2 : Box (V2.heap[D2]? = some (.deferred (some []))) := ⟨(hbk.block D2 (by have := (Array.getElem?_eq_some_iff.1 hK2).1; simp; omega)).trans ((Below.heap_alloc _ _ _ (Array.getElem?_eq_some_iff.1 hK2).1).trans hK2)⟩
        have B4 : Below w.heap.size w V2 := B_W2.trans (e4.mono B_W2.size)
        clear cmW cwW ctW crW crfW csW hq hne e3 hck hfk hB hK2 cm_W2 cr_W2 crf_W2 cw_W2 cs_W2 ct_W2
        gi_wp2
        have c5 : (V2.setCell ⟨w.heap.size + 1, 0, none⟩ (.bool true)).cell? ⟨w.heap.size + 1, 0, none⟩ = some (.bool true) := World.cell?_setCell_same' _ _ _ (by rw [cr_V2]; rfl)
        have k2 := (KeepsOthers.setCell V2 ⟨w.heap.size + 1, 0, none⟩ (.bool true)).same D2 _ HK2.out rfl
        have k1 := (KeepsOthers.setCell V2 ⟨w.heap.size + 1, 0, none⟩ (.bool true)).same D _ HK1.out rfl
        have hDD : D ≠ D2 := by have h1 := (Array.getElem?_eq_some_iff.1 HK.out).1; simp at hD2; omega
        have B5 : Below w.heap.size w (V2.setCell ⟨w.heap.size + 1, 0, none⟩ (.bool true)) := B4.setCell (p := ⟨w.heap.size + 1, 0, none⟩) (Nat.le_succ _) _
        generalize V2.setCell ⟨w.heap.size + 1, 0, none⟩ (.bool true) = V5 at *
        refine ⟨by simp, .inl ⟨_, _, rfl, run_takeDeferred k2, ?_⟩⟩
        have k1' : (V5.putObj D2 (.deferred none)).heap[D]? = some (.deferred (some [])) := (World.putObj_heap_other hDD).trans k1
        have c6 := cell_kept c5 (grownBy_putObj' V5 D2 (.deferred none)) (fun r e => by cases e; exact ⟨_, k2, rfl⟩)
        have c7 := cell_kept c6 (grownBy_putObj' (V5.putObj D2 (.deferred none)) D (.deferred none)) (fun r e => by cases e; exact ⟨_, k1', rfl⟩)
        have hW2w : w.heap.size ≤ W2.heap.size := B_W2.size
        have B6 := B5.trans (belowK_b (w := w) (Nat.le_refl _) V5 D2 _ (.deferred none) (by simp at hD2; omega) k2 rfl rfl)
        have B7 := B6.trans (belowK_b (w := w) (Nat.le_refl _) (V5.putObj D2 (.deferred none)) D _ (.deferred none) (by have := B_W0'.out; simp at hD; omega) k1' rfl rfl)
        refine ⟨by simp, .inl ⟨_, _, rfl, run_takeDeferred k1', ?_⟩⟩
        generalize (V5.putObj D2 (.deferred none)).putObj D (.deferred none) = V7 at *
        exact ⟨.bool true, by simp [results, Try.results5, go_sem, c7], rfl, B7⟩
      case stop2 =>
        rintro D2 c pre V hD2 hpre (⟨rfl, hno⟩ | ⟨rfl, ⟨⟨hp, hlim, hck, hfk⟩, hB⟩⟩) hK
        · exact (hno hpre).elim
        · exact hlim.elim
    case stop =>
      rintro D c pre W hD hpre (⟨rfl, hno⟩ | ⟨rfl, ⟨⟨hp, hlim, hck, hfk⟩, hB⟩⟩) hK
      · exact (hno hpre).elim
      · have cmW := keepCell cm_W0 hB
        have cwW := keepCell cw_W0 hB
        have ctW := keepCell ct_W0 hB
        have crW := keepCell cr_W0 hB
        have crfW := keepFrozen cr_W0 crf_W0 hB
        have csW := keepCell cs_W0 hB
        have Hlim : Box _ := ⟨hlim⟩
        have hpl := prefix_len _ _ hpre
        rw [Hn.out] at hpl
        clear hlim hp
        have hne : ((pre.length : Int) != min (n : Int) (max 1 many)) = false := by
          rw [bne_eq_false_iff_eq]
          obtain ⟨h0, h1, h2⟩ := Hlim.out
          have hmx : max 1 many = (pre.length : Int) := by rcases h2 with h | h <;> omega
          rw [hmx]; omega
        gi_wp2
        clear hne
        have e0 : Ext W0 W := ((Below.refl W0.heap.size W0).alloc (Nat.le_refl _) _).trans hB
        clear cmW cwW ctW crW crfW csW hB hck hfk
        obtain ⟨W2, hW2⟩ : ∃ W2, W.alloc (.cells #[.int .i64 1] 3) = W2 := ⟨_, rfl⟩
        rw [hW2]
        have e2 : Ext W0 W2 := by rw [← hW2]; exact e0.alloc _
        have s_W2 : Box (w1.heap.size + 1 + 1 < W2.heap.size) := ⟨Nat.lt_of_lt_of_le s_W0.out e2.size⟩
        have cm_W2 := e2.cell cm_W0
        have cr_W2 := e2.cell cr_W0
        have crf_W2 : W2.frozen? ⟨w.heap.size + 1, 0, none⟩ = false := (Below.frozen e2 (p := ⟨w.heap.size + 1, 0, none⟩) (lt_of_cell cr_W0)).trans crf_W0
        have cw_W2 := e2.cell cw_W0
        have cs_W2 := e2.cell cs_W0
        have ct_W2 : W2.cell? ⟨W.heap.size, 0, none⟩ = some (.int .i64 1) := by rw [← hW2, World.cell?_alloc_new]; rfl
        have Hc_W2 : Box (CellsAt W2 a (ints L)) := ⟨Hc_W0.out.ext e2⟩
        have B_W2 : Below w.heap.size w W2 := B_W0.trans (e2.mono B_W0.size)
        have HK : Box (W2.heap[D]? = some (.deferred (some []))) := ⟨by rw [← hW2]; exact (Below.heap_alloc _ _ _ (Array.getElem?_eq_some_iff.1 hK).1).trans hK⟩
        have B_W0' : Box (w.heap.size ≤ W0.heap.size) := ⟨B_W0.size⟩
        clear hW2 hK cm_W0 cr_W0 crf_W0 cw_W0 cs_W0 ct_W0 Hc_W0 B_W0 s_W0 e0 e2
        rw [roundsIn_succ]
        gi_wp2
        refine wpIn_rangeFunc_ownG rfl h1 (gf := 30) (lb := #[.pointer (some ⟨w1.heap.size + 1, 0, none⟩)]) rfl trivial (enters_of Try.func30 (by kernel_rfl) rfl)
          (HA.out (w1.heap.size + 1) _ (by have := s_W2.out; simp; omega) (keepCell cs_W2 (Below.refl _ _))) walksK_t walksK_b (Below.refl _ _) (fun _ => rfl)
          (InSets L (fun _ => True) W2.heap.size (W2.alloc (.cells #[.int .i64 0] 3)))
          (OutSets L (fun _ => False) W2.heap.size (W2.alloc (.cells #[.int .i64 0] 3)))
          (inSets_own _ _ _ _ _ (by simp) (by simp)) (outSets_own _ _ _ _ _ (by simp) (by simp))
          ⟨⟨List.nil_prefix, trivial, by rw [World.cell?_alloc_new]; rfl, by simp⟩, Below.refl _ _⟩
          _ (fun l x W K hK => by gi_wp2; exact hK) ?body2 ?done2 ?stop2
        case body2 =>
          rintro l pre x V ⟨⟨hp, hlim, hck, hfk⟩, hB⟩ hlt
          have cmW := keepCell cm_W2 hB
          have cwW := keepCell cw_W2 hB
          have ctW := keepCell ct_W2 hB
          have crW := keepCell cr_W2 hB
          have crfW := keepFrozen cr_W2 crf_W2 hB
          obtain ⟨y, hy⟩ : ∃ y, L[pre.length]? = some y := ⟨L[pre.length]'(by have := Hn.out; omega), by simp⟩
          obtain ⟨b0, o0, rfl, hcy⟩ := Hc_W2.out pre.length (.int .i64 y) (by simp [ints, hy])
          have hcyW := keepCell hcy hB
          have l0 := lt_of_cell cm_W2
          have l1 := lt_of_cell cr_W2
          have l2 := lt_of_cell cw_W2
          have l3 := lt_of_cell ct_W2
          have l4 := lt_of_cell hcy
          have ne0 : w.heap.size ≠ W2.heap.size := by omega
          have ne1 : w.heap.size + 1 ≠ W2.heap.size := by omega
          have ne2 : w1.heap.size ≠ W2.heap.size := by omega
          have ne3 : W.heap.size ≠ W2.heap.size := by omega
          have ne4 : b0 ≠ W2.heap.size := by omega
          have hbx : True := trivial
          clear hbx l0 l1 l2 l3 l4
          by_cases hxy : x = y
          · subst hxy
            gi_wp2
            exact ⟨(KeepsOthers.setCell _ _ _).from _, (KeepsOthers.setCell _ _ _).walks, ⟨(prefix_snoc pre L x hp).2 hy, trivial, (World.cell?_setCell_same' _ _ _ (by rw [hck]; rfl)).trans (by simp), by rw [World.frozen?_setCell]; exact hfk⟩, hB.setCell (p := ⟨W2.heap.size, 0, none⟩) (Nat.le_refl _) _⟩
          · have hne : ((x : Int) != (y : Int)) = true := by rw [bne_iff_ne]; omega
            gi_wp2
            exact ⟨(KeepsOthers.setCell _ _ _).from _, .inl ⟨rfl, fun h => by rw [prefix_snoc pre L x hp, hy] at h; cases h; exact hxy rfl⟩⟩
        case done2 =>
          rintro D2 L V hD2 rfl ⟨⟨hp, hlim, hck, hfk⟩, hB⟩ hK2
          have cmW := keepCell cm_W2 hB
          have cwW := keepCell cw_W2 hB
          have ctW := keepCell ct_W2 hB
          have crW := keepCell cr_W2 hB
          have crfW := keepFrozen cr_W2 crf_W2 hB
          have csW := keepCell cs_W2 hB
          rw [Hn.out] at hck
          have e3 : Ext W2 V := ((Below.refl W2.heap.size W2).alloc (Nat.le_refl _) _).trans hB
          have hne : ((n : Int) != (n : Int)) = false := by simp
          gi_wp2
          rw [roundsIn_succ]
          gi_wp2_with fail
          refine ⟨trivial, ?_⟩
          refine (callsIn_wide.2 (known_any _)).mono ?_
          rintro e V2 ⟨rfl, hbk⟩
          have e4 : Ext W2 V2 := Ext.trans' (e3.alloc _) hbk
          have cr_V2 := e4.cell cr_W2
          have crf_V2 : V2.frozen? ⟨w.heap.size + 1, 0, none⟩ = false := (Below.frozen e4 (p := ⟨w.heap.size + 1, 0, none⟩) (lt_of_cell cr_W2)).trans crf_W2
          have HK1 : Box (V2.heap[D]? = some (.deferred (some []))) := ⟨(e4.block D (Array.getElem?_eq_some_iff.1 HK.out).1).trans HK.out⟩
          have HK2 : Box (V2.heap[D2]? = some (.deferred (some []))) := ⟨(hbk.block D2 (by have := (Array.getElem?_eq_some_iff.1 hK2).1; simp; omega)).trans ((Below.heap_alloc _ _ _ (Array.getElem?_eq_some_iff.1 hK2).1).trans hK2)⟩
          have B4 : Below w.heap.size w V2 := B_W2.trans (e4.mono B_W2.size)
          clear cmW cwW ctW crW crfW csW hq hne e3 hck hfk hB hK2 cm_W2 cr_W2 crf_W2 cw_W2 cs_W2 ct_W2
          gi_wp2
          have c5 : (V2.setCell ⟨w.heap.size + 1, 0, none⟩ (.bool true)).cell? ⟨w.heap.size + 1, 0, none⟩ = some (.bool true) := World.cell?_setCell_same' _ _ _ (by rw [cr_V2]; rfl)
          have k2 := (KeepsOthers.setCell V2 ⟨w.heap.size + 1, 0, none⟩ (.bool true)).same D2 _ HK2.out rfl
          have k1 := (KeepsOthers.setCell V2 ⟨w.heap.size + 1, 0, none⟩ (.bool true)).same D _ HK1.out rfl
          have hDD : D ≠ D2 := by have h1 := (Array.getElem?_eq_some_iff.1 HK.out).1; simp at hD2; omega
          have B5 : Below w.heap.size w (V2.setCell ⟨w.heap.size + 1, 0, none⟩ (.bool true)) := B4.setCell (p := ⟨w.heap.size + 1, 0, none⟩) (Nat.le_succ _) _
          generalize V2.setCell ⟨w.heap.size + 1, 0, none⟩ (.bool true) = V5 at *
          refine ⟨by simp, .inl ⟨_, _, rfl, run_takeDeferred k2, ?_⟩⟩
          have k1' : (V5.putObj D2 (.deferred none)).heap[D]? = some (.deferred (some [])) := (World.putObj_heap_other hDD).trans k1
          have c6 := cell_kept c5 (grownBy_putObj' V5 D2 (.deferred none)) (fun r e => by cases e; exact ⟨_, k2, rfl⟩)
          have c7 := cell_kept c6 (grownBy_putObj' (V5.putObj D2 (.deferred none)) D (.deferred none)) (fun r e => by cases e; exact ⟨_, k1', rfl⟩)
          have hW2w : w.heap.size ≤ W2.heap.size := B_W2.size
          have B6 := B5.trans (belowK_b (w := w) (Nat.le_refl _) V5 D2 _ (.deferred none) (by simp at hD2; omega) k2 rfl rfl)
          have B7 := B6.trans (belowK_b (w := w) (Nat.le_refl _) (V5.putObj D2 (.deferred none)) D _ (.deferred none) (by have := B_W0'.out; simp at hD; omega) k1' rfl rfl)
          refine ⟨by simp, .inl ⟨_, _, rfl, run_takeDeferred k1', ?_⟩⟩
          generalize (V5.putObj D2 (.deferred none)).putObj D (.deferred none) = V7 at *
          exact ⟨.bool true, by simp [results, Try.results5, go_sem, c7], rfl, B7⟩
        case stop2 =>
          rintro D2 c pre V hD2 hpre (⟨rfl, hno⟩ | ⟨rfl, ⟨⟨hp, hlim, hck, hfk⟩, hB⟩⟩) hK
          · exact (hno hpre).elim
          · exact hlim.elim

  case neg =>
    obtain rfl : f = 8 := by
      have h1 := Hn.out; have h2 := hfb.out
      rcases L with _ | ⟨x, xs⟩
      · exact h2.symm
      · simp at h1; omega
    gi_wp2_with (refine ⟨trivial, ?_⟩; gi_at_call 17; refine (callsIn_wide.2 (all_any _ _)).mono ?_; rintro e w' ⟨rfl, rfl⟩)
    have hwide : ∀ f, Fence.wide.fn f := fun _ => trivial
    gi_quiet_th (first | (gi_at_call 18; exact CallsIn.quiet_of_same (callsIn_wide.2 (HF.out _))) | (gi_at_call 19; exact CallsIn.quiet_of_same (callsIn_wide.2 (HC.out _))))
    gi_wp2
    clear hwide
    obtain ⟨W0, hW0⟩ : ∃ W0, ((((w1.alloc (.cells #[.slice a n c] 37)).alloc (.cells #[.int .u8 S] 5)).drewN nq).alloc (.cells #[.int .i64 0] 3)) = W0 := ⟨_, rfl⟩
    rw [hW0]
    have hB01 : Below w1.heap.size w1 W0 := by rw [← hW0]; exact (below_drewN (((Below.refl _ _).alloc (Nat.le_refl _) _).alloc (by simp) _) _).alloc (by simp; omega) _
    have s_W0 : Box (w1.heap.size + 1 + 1 < W0.heap.size) := ⟨by rw [← hW0]; simp⟩
    have cm_W0 : W0.cell? ⟨w.heap.size, 0, none⟩ = some (.int .i64 many) := (hB01.cell (p := ⟨w.heap.size, 0, none⟩) (by show w.heap.size < _; omega)).trans hmany
    have cr_W0 : W0.cell? ⟨w.heap.size + 1, 0, none⟩ = some (.bool false) := (hB01.cell (p := ⟨w.heap.size + 1, 0, none⟩) (by show w.heap.size + 1 < _; omega)).trans hres
    have crf_W0 : W0.frozen? ⟨w.heap.size + 1, 0, none⟩ = false := (hB01.frozen (p := ⟨w.heap.size + 1, 0, none⟩) (by show w.heap.size + 1 < _; omega)).trans hresf
    have cw_W0 : W0.cell? ⟨w1.heap.size, 0, none⟩ = some (.slice a n c) := by rw [← hW0]; exact (three_cells _ _ _ _ _ _ _ _).1
    have cs_W0 : W0.cell? ⟨w1.heap.size + 1, 0, none⟩ = some (.int .u8 S) := by rw [← hW0]; exact (three_cells _ _ _ _ _ _ _ _).2.1
    have ct_W0 : W0.cell? ⟨w1.heap.size + 1 + 1, 0, none⟩ = some (.int .i64 0) := by rw [← hW0]; exact (three_cells _ _ _ _ _ _ _ _).2.2
    have Hc_W0 : Box (CellsAt W0 a (ints L)) := ⟨Hcells.out.ext hB01⟩
    have B_W0 : Below w.heap.size w W0 := hB1.trans (hB01.mono (by omega))
    clear hW0 hmany hres hresf Hcells Hrow hB1 hB01
    refine wpIn_loop_rounds 3 ?_
    rw [roundsIn_succ]
    gi_wp2
    refine wpIn_rangeFunc_ownG rfl h1 (gf := 30) (lb := #[.pointer (some ⟨w1.heap.size + 1, 0, none⟩)]) rfl trivial (enters_of Try.func30 (by kernel_rfl) rfl)
      (HA.out (w1.heap.size + 1) _ (by have := s_W0.out; simp; omega) (keepCell cs_W0 (Below.refl _ _))) walksK_t walksK_b (Below.refl _ _) (fun _ => rfl)
      (InSets L (fun pre => pre = [] ∨ (pre.length : Int) < many) W0.heap.size (W0.alloc (.cells #[.int .i64 0] 3)))
      (OutSets L (fun pre => 1 ≤ pre.length ∧ many ≤ pre.length ∧ (pre.length = 1 ∨ (pre.length : Int) - 1 < many)) W0.heap.size (W0.alloc (.cells #[.int .i64 0] 3)))
      (inSets_own _ _ _ _ _ (by simp) (by simp)) (outSets_own _ _ _ _ _ (by simp) (by simp))
      ⟨⟨List.nil_prefix, .inl rfl, by rw [World.cell?_alloc_new]; rfl, by simp⟩, Below.refl _ _⟩
      _ (fun l x W K hK => by gi_wp2; exact hK) ?body ?done ?stop
    case body =>
      rintro l pre x V _ hlt
      omega
    case done =>
      rintro D L W hD rfl ⟨⟨hp, hlim, hck, hfk⟩, hB⟩ hK
      have cmW := keepCell cm_W0 hB
      have cwW := keepCell cw_W0 hB
      have ctW := keepCell ct_W0 hB
      have crW := keepCell cr_W0 hB
      have crfW := keepFrozen cr_W0 crf_W0 hB
      have csW := keepCell cs_W0 hB
      rw [Hn.out] at hck
      have Hlim : Box (n = 0 ∨ (n : Int) < many) := ⟨by rw [← Hn.out]; rcases hlim with h | h; exact .inl (by rw [h]; rfl); exact .inr h⟩
      clear hlim hp
      have hne : ((n : Int) != min (n : Int) (max 1 many)) = false := by rw [bne_eq_false_iff_eq]; rcases Hlim.out with h | h <;> omega
      gi_wp2
      clear hne
      have e0 : Ext W0 W := ((Below.refl W0.heap.size W0).alloc (Nat.le_refl _) _).trans hB
      clear cmW cwW ctW crW crfW csW hB hck hfk
      obtain ⟨W2, hW2⟩ : ∃ W2, W.alloc (.cells #[.int .i64 1] 3) = W2 := ⟨_, rfl⟩
      rw [hW2]
      have e2 : Ext W0 W2 := by rw [← hW2]; exact e0.alloc _
      have s_W2 : Box (w1.heap.size + 1 + 1 < W2.heap.size) := ⟨Nat.lt_of_lt_of_le s_W0.out e2.size⟩
      have cm_W2 := e2.cell cm_W0
      have cr_W2 := e2.cell cr_W0
      have crf_W2 : W2.frozen? ⟨w.heap.size + 1, 0, none⟩ = false := (Below.frozen e2 (p := ⟨w.heap.size + 1, 0, none⟩) (lt_of_cell cr_W0)).trans crf_W0
      have cw_W2 := e2.cell cw_W0
      have cs_W2 := e2.cell cs_W0
      have ct_W2 : W2.cell? ⟨W.heap.size, 0, none⟩ = some (.int .i64 1) := by rw [← hW2, World.cell?_alloc_new]; rfl
      have Hc_W2 : Box (CellsAt W2 a (ints L)) := ⟨Hc_W0.out.ext e2⟩
      have B_W2 : Below w.heap.size w W2 := B_W0.trans (e2.mono B_W0.size)
      have HK : Box (W2.heap[D]? = some (.deferred (some []))) := ⟨by rw [← hW2]; exact (Below.heap_alloc _ _ _ (Array.getElem?_eq_some_iff.1 hK).1).trans hK⟩
      have B_W0' : Box (w.heap.size ≤ W0.heap.size) := ⟨B_W0.size⟩
      clear hW2 hK cm_W0 cr_W0 crf_W0 cw_W0 cs_W0 ct_W0 Hc_W0 B_W0 s_W0 e0 e2
      rw [roundsIn_succ]
      gi_wp2
      refine wpIn_rangeFunc_ownG rfl h1 (gf := 30) (lb := #[.pointer (some ⟨w1.heap.size + 1, 0, none⟩)]) rfl trivial (enters_of Try.func30 (by kernel_rfl) rfl)
        (HA.out (w1.heap.size + 1) _ (by have := s_W2.out; simp; omega) (keepCell cs_W2 (Below.refl _ _))) walksK_t walksK_b (Below.refl _ _) (fun _ => rfl)
        (InSets L (fun _ => True) W2.heap.size (W2.alloc (.cells #[.int .i64 0] 3)))
        (OutSets L (fun _ => False) W2.heap.size (W2.alloc (.cells #[.int .i64 0] 3)))
        (inSets_own _ _ _ _ _ (by simp) (by simp)) (outSets_own _ _ _ _ _ (by simp) (by simp))
        ⟨⟨List.nil_prefix, trivial, by rw [World.cell?_alloc_new]; rfl, by simp⟩, Below.refl _ _⟩
        _ (fun l x W K hK => by gi_wp2; exact hK) ?body2 ?done2 ?stop2
      case body2 =>
        rintro l pre x V _ hlt
        omega
      case done2 =>
        rintro D2 L V hD2 rfl ⟨⟨hp, hlim, hck, hfk⟩, hB⟩ hK2
        have cmW := keepCell cm_W2 hB
        have cwW := keepCell cw_W2 hB
        have ctW := keepCell ct_W2 hB
        have crW := keepCell cr_W2 hB
        have crfW := keepFrozen cr_W2 crf_W2 hB
        have csW := keepCell cs_W2 hB
        rw [Hn.out] at hck
        have e3 : Ext W2 V := ((Below.refl W2.heap.size W2).alloc (Nat.le_refl _) _).trans hB
        have hne : ((n : Int) != (n : Int)) = false := by simp
        gi_wp2
        rw [roundsIn_succ]
        gi_wp2_with fail
        refine ⟨trivial, ?_⟩
        refine (callsIn_wide.2 (known_any _)).mono ?_
        rintro e V2 ⟨rfl, hbk⟩
        have e4 : Ext W2 V2 := Ext.trans' (e3.alloc _) hbk
        have cr_V2 := e4.cell cr_W2
        have crf_V2 : V2.frozen? ⟨w.heap.size + 1, 0, none⟩ = false := (Below.frozen e4 (p := ⟨w.heap.size + 1, 0, none⟩) (lt_of_cell cr_W2)).trans crf_W2
        have HK1 : Box (V2.heap[D]? = some (.deferred (some []))) := ⟨(e4.block D (Array.getElem?_eq_some_iff.1 HK.out).1).trans HK.out⟩
        have HK2 : Box (V2.heap[D2]? = some (.deferred (some []))) := ⟨(hbk.block D2 (by have := (Array.getElem?_eq_some_iff.1 hK2).1; simp; omega)).trans ((Below.heap_alloc _ _ _ (Array.getElem?_eq_some_iff.1 hK2).1).trans hK2)⟩
        have B4 : Below w.heap.size w V2 := B_W2.trans (e4.mono B_W2.size)
        clear cmW cwW ctW crW crfW csW hq hne e3 hck hfk hB hK2 cm_W2 cr_W2 crf_W2 cw_W2 cs_W2 ct_W2
        gi_wp2
        have c5 : (V2.setCell ⟨w.heap.size + 1, 0, none⟩ (.bool true)).cell? ⟨w.heap.size + 1, 0, none⟩ = some (.bool true) := World.cell?_setCell_same' _ _ _ (by rw [cr_V2]; rfl)
        have k2 := (KeepsOthers.setCell V2 ⟨w.heap.size + 1, 0, none⟩ (.bool true)).same D2 _ HK2.out rfl
        have k1 := (KeepsOthers.setCell V2 ⟨w.heap.size + 1, 0, none⟩ (.bool true)).same D _ HK1.out rfl
        have hDD : D ≠ D2 := by have h1 := (Array.getElem?_eq_some_iff.1 HK.out).1; simp at hD2; omega
        have B5 : Below w.heap.size w (V2.setCell ⟨w.heap.size + 1, 0, none⟩ (.bool true)) := B4.setCell (p := ⟨w.heap.size + 1, 0, none⟩) (Nat.le_succ _) _
        generalize V2.setCell ⟨w.heap.size + 1, 0, none⟩ (.bool true) = V5 at *
        refine ⟨by simp, .inl ⟨_, _, rfl, run_takeDeferred k2, ?_⟩⟩
        have k1' : (V5.putObj D2 (.deferred none)).heap[D]? = some (.deferred (some [])) := (World.putObj_heap_other hDD).trans k1
        have c6 := cell_kept c5 (grownBy_putObj' V5 D2 (.deferred none)) (fun r e => by cases e; exact ⟨_, k2, rfl⟩)
        have c7 := cell_kept c6 (grownBy_putObj' (V5.putObj D2 (.deferred none)) D (.deferred none)) (fun r e => by cases e; exact ⟨_, k1', rfl⟩)
        have hW2w : w.heap.size ≤ W2.heap.size := B_W2.size
        have B6 := B5.trans (belowK_b (w := w) (Nat.le_refl _) V5 D2 _ (.deferred none) (by simp at hD2; omega) k2 rfl rfl)
        have B7 := B6.trans (belowK_b (w := w) (Nat.le_refl _) (V5.putObj D2 (.deferred none)) D _ (.deferred none) (by have := B_W0'.out; simp at hD; omega) k1' rfl rfl)
        refine ⟨by simp, .inl ⟨_, _, rfl, run_takeDeferred k1', ?_⟩⟩
        generalize (V5.putObj D2 (.deferred none)).putObj D (.deferred none) = V7 at *
        exact ⟨.bool true, by simp [results, Try.results5, go_sem, c7], rfl, B7⟩
      case stop2 =>
        rintro D2 c pre V hD2 hpre (⟨rfl, hno⟩ | ⟨rfl, ⟨⟨hp, hlim, hck, hfk⟩, hB⟩⟩) hK
        · exact (hno hpre).elim
        · exact hlim.elim
    case stop =>
      rintro D c pre W hD hpre (⟨rfl, hno⟩ | ⟨rfl, ⟨⟨hp, hlim, hck, hfk⟩, hB⟩⟩) hK
      · exact (hno hpre).elim
      · have cmW := keepCell cm_W0 hB
        have cwW := keepCell cw_W0 hB
        have ctW := keepCell ct_W0 hB
        have crW := keepCell cr_W0 hB
        have crfW := keepFrozen cr_W0 crf_W0 hB
        have csW := keepCell cs_W0 hB
        have Hlim : Box _ := ⟨hlim⟩
        have hpl := prefix_len _ _ hpre
        rw [Hn.out] at hpl
        clear hlim hp
        have hne : ((pre.length : Int) != min (n : Int) (max 1 many)) = false := by
          rw [bne_eq_false_iff_eq]
          obtain ⟨h0, h1, h2⟩ := Hlim.out
          have hmx : max 1 many = (pre.length : Int) := by rcases h2 with h | h <;> omega
          rw [hmx]; omega
        gi_wp2
        clear hne
        have e0 : Ext W0 W := ((Below.refl W0.heap.size W0).alloc (Nat.le_refl _) _).trans hB
        clear cmW cwW ctW crW crfW csW hB hck hfk
        obtain ⟨W2, hW2⟩ : ∃ W2, W.alloc (.cells #[.int .i64 1] 3) = W2 := ⟨_, rfl⟩
        rw [hW2]
        have e2 : Ext W0 W2 := by rw [← hW2]; exact e0.alloc _
        have s_W2 : Box (w1.heap.size + 1 + 1 < W2.heap.size) := ⟨Nat.lt_of_lt_of_le s_W0.out e2.size⟩
        have cm_W2 := e2.cell cm_W0
        have cr_W2 := e2.cell cr_W0
        have crf_W2 : W2.frozen? ⟨w.heap.size + 1, 0, none⟩ = false := (Below.frozen e2 (p := ⟨w.heap.size + 1, 0, none⟩) (lt_of_cell cr_W0)).trans crf_W0
        have cw_W2 := e2.cell cw_W0
        have cs_W2 := e2.cell cs_W0
        have ct_W2 : W2.cell? ⟨W.heap.size, 0, none⟩ = some (.int .i64 1) := by rw [← hW2, World.cell?_alloc_new]; rfl
        have Hc_W2 : Box (CellsAt W2 a (ints L)) := ⟨Hc_W0.out.ext e2⟩
        have B_W2 : Below w.heap.size w W2 := B_W0.trans (e2.mono B_W0.size)
        have HK : Box (W2.heap[D]? = some (.deferred (some []))) := ⟨by rw [← hW2]; exact (Below.heap_alloc _ _ _ (Array.getElem?_eq_some_iff.1 hK).1).trans hK⟩
        have B_W0' : Box (w.heap.size ≤ W0.heap.size) := ⟨B_W0.size⟩
        clear hW2 hK cm_W0 cr_W0 crf_W0 cw_W0 cs_W0 ct_W0 Hc_W0 B_W0 s_W0 e0 e2
        rw [roundsIn_succ]
        gi_wp2
        refine wpIn_rangeFunc_ownG rfl h1 (gf := 30) (lb := #[.pointer (some ⟨w1.heap.size + 1, 0, none⟩)]) rfl trivial (enters_of Try.func30 (by kernel_rfl) rfl)
          (HA.out (w1.heap.size + 1) _ (by have := s_W2.out; simp; omega) (keepCell cs_W2 (Below.refl _ _))) walksK_t walksK_b (Below.refl _ _) (fun _ => rfl)
          (InSets L (fun _ => True) W2.heap.size (W2.alloc (.cells #[.int .i64 0] 3)))
          (OutSets L (fun _ => False) W2.heap.size (W2.alloc (.cells #[.int .i64 0] 3)))
          (inSets_own _ _ _ _ _ (by simp) (by simp)) (outSets_own _ _ _ _ _ (by simp) (by simp))
          ⟨⟨List.nil_prefix, trivial, by rw [World.cell?_alloc_new]; rfl, by simp⟩, Below.refl _ _⟩
          _ (fun l x W K hK => by gi_wp2; exact hK) ?body2 ?done2 ?stop2
        case body2 =>
          rintro l pre x V _ hlt
          omega
        case done2 =>
          rintro D2 L V hD2 rfl ⟨⟨hp, hlim, hck, hfk⟩, hB⟩ hK2
          have cmW := keepCell cm_W2 hB
          have cwW := keepCell cw_W2 hB
          have ctW := keepCell ct_W2 hB
          have crW := keepCell cr_W2 hB
          have crfW := keepFrozen cr_W2 crf_W2 hB
          have csW := keepCell cs_W2 hB
          rw [Hn.out] at hck
          have e3 : Ext W2 V := ((Below.refl W2.heap.size W2).alloc (Nat.le_refl _) _).trans hB
          have hne : ((n : Int) != (n : Int)) = false := by simp
          gi_wp2
          rw [roundsIn_succ]
          gi_wp2_with fail
          refine ⟨trivial, ?_⟩
          refine (callsIn_wide.2 (known_any _)).mono ?_
          rintro e V2 ⟨rfl, hbk⟩
          have e4 : Ext W2 V2 := Ext.trans' (e3.alloc _) hbk
          have cr_V2 := e4.cell cr_W2
          have crf_V2 : V2.frozen? ⟨w.heap.size + 1, 0, none⟩ = false := (Below.frozen e4 (p := ⟨w.heap.size + 1, 0, none⟩) (lt_of_cell cr_W2)).trans crf_W2
          have HK1 : Box (V2.heap[D]? = some (.deferred (some []))) := ⟨(e4.block D (Array.getElem?_eq_some_iff.1 HK.out).1).trans HK.out⟩
          have HK2 : Box (V2.heap[D2]? = some (.deferred (some []))) := ⟨(hbk.block D2 (by have := (Array.getElem?_eq_some_iff.1 hK2).1; simp; omega)).trans ((Below.heap_alloc _ _ _ (Array.getElem?_eq_some_iff.1 hK2).1).trans hK2)⟩
          have B4 : Below w.heap.size w V2 := B_W2.trans (e4.mono B_W2.size)
          clear cmW cwW ctW crW crfW csW hq hne e3 hck hfk hB hK2 cm_W2 cr_W2 crf_W2 cw_W2 cs_W2 ct_W2
          gi_wp2
          have c5 : (V2.setCell ⟨w.heap.size + 1, 0, none⟩ (.bool true)).cell? ⟨w.heap.size + 1, 0, none⟩ = some (.bool true) := World.cell?_setCell_same' _ _ _ (by rw [cr_V2]; rfl)
          have k2 := (KeepsOthers.setCell V2 ⟨w.heap.size + 1, 0, none⟩ (.bool true)).same D2 _ HK2.out rfl
          have k1 := (KeepsOthers.setCell V2 ⟨w.heap.size + 1, 0, none⟩ (.bool true)).same D _ HK1.out rfl
          have hDD : D ≠ D2 := by have h1 := (Array.getElem?_eq_some_iff.1 HK.out).1; simp at hD2; omega
          have B5 : Below w.heap.size w (V2.setCell ⟨w.heap.size + 1, 0, none⟩ (.bool true)) := B4.setCell (p := ⟨w.heap.size + 1, 0, none⟩) (Nat.le_succ _) _
          generalize V2.setCell ⟨w.heap.size + 1, 0, none⟩ (.bool true) = V5 at *
          refine ⟨by simp, .inl ⟨_, _, rfl, run_takeDeferred k2, ?_⟩⟩
          have k1' : (V5.putObj D2 (.deferred none)).heap[D]? = some (.deferred (some [])) := (World.putObj_heap_other hDD).trans k1
          have c6 := cell_kept c5 (grownBy_putObj' V5 D2 (.deferred none)) (fun r e => by cases e; exact ⟨_, k2, rfl⟩)
          have c7 := cell_kept c6 (grownBy_putObj' (V5.putObj D2 (.deferred none)) D (.deferred none)) (fun r e => by cases e; exact ⟨_, k1', rfl⟩)
          have hW2w : w.heap.size ≤ W2.heap.size := B_W2.size
          have B6 := B5.trans (belowK_b (w := w) (Nat.le_refl _) V5 D2 _ (.deferred none) (by simp at hD2; omega) k2 rfl rfl)
          have B7 := B6.trans (belowK_b (w := w) (Nat.le_refl _) (V5.putObj D2 (.deferred none)) D _ (.deferred none) (by have := B_W0'.out; simp at hD; omega) k1' rfl rfl)
          refine ⟨by simp, .inl ⟨_, _, rfl, run_takeDeferred k1', ?_⟩⟩
          generalize (V5.putObj D2 (.deferred none)).putObj D (.deferred none) = V7 at *
          exact ⟨.bool true, by simp [results, Try.results5, go_sem, c7], rfl, B7⟩
        case stop2 =>
          rintro D2 c pre V hD2 hpre (⟨rfl, hno⟩ | ⟨rfl, ⟨⟨hp, hlim, hck, hfk⟩, hB⟩⟩) hK
          · exact (hno hpre).elim
          · exact hlim.elim


theorem lawWordSets_walk (a0 a1 : Int) (W : World) (w0 : (Lit.int .u8 a0).wf = true) (w1 : (Lit.int .i64 a1).wf = true) :
    Calls Try.prog 5 #[.int .u8 a0, .int .i64 a1] W fun e W' => e = .returned (.bool true) ∧ Below W.heap.size W W' := by
  obtain ⟨S, rfl⟩ := Int.eq_ofNat_of_zero_le (wf_u8 w0).1
  exact wordSets_walk S (by have := (wf_u8 w0).2; omega) a1 W (wf_i64 w1).1 (wf_i64 w1).2
end Go.Proofs.Ytfobbhphcgomgaa
