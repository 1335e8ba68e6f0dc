import Derived.Test.YtjeekfeimogehaaDoorC10
/- The law ControlHolds: the walk's cases joined. -/
namespace Go.Proofs.YtjeekfeimogehaaDoor
open Go.RowKit

theorem set_ok (W : Nat) (l : Int) (c : Nat) (h : setE W l c = 0) : WM.okB c = true ∧ checkN W l = 0 := by
  unfold setE at h
  split at h
  · cases h
  · rename_i hk; exact ⟨by simpa using hk, h⟩
theorem era_ok (W : Nat) (l : Int) (h : eraE W l = 0) : checkN W l = 0 ∧ ¬ 127 < WM.lane W l.toNat := by
  unfold eraE at h
  split at h
  · rename_i hk; exact absurd h hk
  · rename_i hk
    split at h
    · cases h
    · rename_i h2; exact ⟨by simpa using hk, h2⟩
theorem set_val (W i c : Nat) (h : setE W i c = 0) : setV W i c = WM.withN W i c ∧ i < 8 := by
  obtain ⟨h1, h2⟩ := set_ok W i c h
  obtain ⟨h3, h4, h5⟩ := (checkN_zero _ _).1 h2
  refine ⟨?_, by omega⟩
  unfold setV; rw [if_neg (by simp [h1, h3]; omega)]; rfl
theorem era_val (W i : Nat) (h : eraE W i = 0) : eraV W i = WM.withN W i (eraC W) ∧ i < 8 := by
  obtain ⟨h2, h6⟩ := era_ok W i h
  obtain ⟨h3, h4, h5⟩ := (checkN_zero _ _).1 h2
  refine ⟨?_, by omega⟩
  unfold eraV; rw [if_neg (by simp [h3, h6] at *; omega)]; rfl

set_option maxHeartbeats 4000000 in
theorem lawControlHolds_walk (a0 a1 a2 : Int) (W : World) (w0 : (Lit.int .u64 a0).wf = true) (_ : (Lit.int .i64 a1).wf = true) (w2 : (Lit.int .u8 a2).wf = true) (ht : Tabs W) :
    Calls Tryd.prog 7 #[.int .u64 a0, .int .i64 a1, .int .u8 a2] W fun e W' => e = .returned (.bool true) ∧ Below W.heap.size W W' := by
  obtain ⟨h0, h1⟩ := wf_u64 w0
  obtain ⟨h2, h3⟩ := wf_u8 w2
  obtain ⟨g, rfl⟩ := Int.eq_ofNat_of_zero_le h0
  obtain ⟨c, rfl⟩ := Int.eq_ofNat_of_zero_le h2
  have hg : g < 18446744073709551616 := by omega
  have hc : c < 256 := by omega
  have ck : Box (∀ w, Ext W w → Calls Tryd.prog 20 #[] w fun e w' => e = .returned (.bool true) ∧ Ext w w') := ⟨fun w h => known_any w (ht.ext h)⟩
  have c1 : Box (∀ w, Calls Tryd.prog 8 #[.int .u64 g] w fun e w' => e = .returned (.bool (WM.validN g)) ∧ w = w') := ⟨fun w => valid_any g w h0 h1⟩
  cases hv : WM.validN g
  · rw [hv] at c1
    have hx : Ext W W := Below.refl _ _
    clear h0 h1 h2 h3 w0 w2 hg hc ht hv
    go_enter Tryd.func7, Tryd.ntmps7
    go_wp2_with (first | (go_at_call 8; (with_reducible refine (c1.out _).mono ?_); rintro e w' ⟨rfl, rfl⟩) | (go_at_call 20; (with_reducible refine (ck.out _ hx).mono ?_); rintro e w1 ⟨rfl, hb⟩; have hx := Ext.trans' hx hb))
    go_ret
    exact ⟨rfl, hx⟩
  · rw [hv] at c1
    have c2 : Box (∀ w, Calls Tryd.prog 14 #[.int .u64 g] w fun e w' => e = .returned (.int .u8 (WM.freeN g)) ∧ w = w') := ⟨fun w => free_any g w h0 h1⟩
    have c3 : Box (∀ w, Calls Tryd.prog 16 #[.int .u64 g] w fun e w' => e = .returned (.int .u8 (WM.fullN g)) ∧ w = w') := ⟨fun w => full_any g w h0 h1⟩
    have c4 : Box (∀ w, Calls Tryd.prog 12 #[.int .u64 g] w fun e w' => e = .returned (.int .u8 (WM.matchN g 128)) ∧ w = w') := ⟨fun w => empties_any g w h0 h1⟩
    have hA : bits .and .u8 (WM.freeN g : Int) (WM.fullN g : Int) = 0 := by rw [u8_and_nat _ _ (WM.freeN_lt g) (WM.fullN_lt g), WM.free_full_zero]; rfl
    have hO : bits .or .u8 (WM.freeN g : Int) (WM.fullN g : Int) = 255 := by
      rw [u8_or_nat _ _ (WM.freeN_lt g) (WM.fullN_lt g)]
      have := WM.valid_eq g; rw [hv, beq_iff_eq] at this; rw [this]; rfl
    have hN : bits .andNot .u8 (WM.matchN g 128 : Int) (WM.freeN g : Int) = 0 := by rw [u8_andNot_nat _ _ (WM.matchN_lt g 128) (WM.freeN_lt g), WM.empty_free]; rfl
    have cE : Box (∀ w, Calls Tryd.prog 23 #[.int .u64 g, .int .i64 a1] w fun e w' => e = .returned (.tuple #[.int .u64 (eraV g a1), .int .i64 (eraE g a1)]) ∧ Ext w w') := ⟨fun w => erase_ext g a1 w h0 h1⟩
    have cS : Box (∀ w, Calls Tryd.prog 21 #[.int .u64 g, .int .i64 a1, .int .u8 c] w fun e w' => e = .returned (.tuple #[.int .u64 (setV g a1 c), .int .i64 (setE g a1 c)]) ∧ Ext w w') := ⟨fun w => cset_ext g a1 c w h0 h1 h2 h3⟩
    have hne : ∀ x : Int, x ≠ 0 → (x == 0) = false := fun x h => by simpa using h
    have cm : ∀ X, X < 18446744073709551616 → Box (∀ k : Nat, k < 128 → ∀ w, Calls Tryd.prog 10 #[.int .u64 (X : Nat), .int .u8 k] w fun e w' => e = .returned (.int .u8 (cmatch X k)) ∧ w = w') := fun X hX => ⟨fun k hk w => cmatch_any X k w (by omega) (by omega) (by omega) (by omega)⟩
    have cl : ∀ X, X < 18446744073709551616 → Box (∀ k : Nat, k < 8 → ∀ w, Calls Tryd.prog 27 #[.int .u64 (X : Nat), .int .i64 k] w fun e w' => e = .returned (.int .u8 (WM.lane X k)) ∧ w = w') := fun X hX => ⟨fun k hk w => refLane_any X k w (by omega) (by omega) (by omega) (by omega)⟩
    by_cases hS : setE g a1 c = 0
    · obtain ⟨i, rfl⟩ := Int.eq_ofNat_of_zero_le ((checkN_zero _ _).1 (set_ok _ _ _ hS).2).2.1
      obtain ⟨eS, hi⟩ := set_val g i c hS
      rw [hS, eS] at cS
      have hX2 := WM.withN_lt g i c hc
      by_cases hE : eraE g i = 0
      · obtain ⟨eE, _⟩ := era_val g i hE
        rw [hE, eE] at cE
        have hX1 := WM.withN_lt g i (eraC g) (eraC_ok g).1
        refine holds_es g i c W _ _ _ (WM.withN g i (eraC g)) (WM.withN g i c) hc hi ck c1 c2 c3 c4 hA hO hN (WM.freeN (WM.withN g i (eraC g))) (WM.matchN (WM.withN g i (eraC g)) 128) cE ?_ ?_ ?_ (cl _ hg) (cl _ hX1) ((WM.matchN g 128 : Int) != 0) rfl ?_ (era_free g i hi) (WM.freeN_lt g) ?_ (cm _ hX2) cS (fun k hk => set_bit g i c k hi hc hk)
        · exact ⟨fun w => by have := valid_any (WM.withN g i (eraC g)) w (by omega) (by omega); rw [Int.toNat_natCast, era_valid g i hi hv] at this; exact this⟩
        · exact ⟨fun w => free_any (WM.withN g i (eraC g)) w (by omega) (by omega)⟩
        · exact ⟨fun w => empties_any (WM.withN g i (eraC g)) w (by omega) (by omega)⟩
        · have := era_empty g i hi
          rw [Bool.eq_iff_iff]; simp; omega
        · intro k hk
          by_cases h : k = i
          · left; simp [h]
          · right; refine ⟨by simp; omega, ?_⟩
            rw [WM.lane_with g i _ k (eraC_ok g).1 hk, if_neg h]
      · exact holds_ns g i c W _ _ _ 0 (WM.withN g i c) hc hi ck c1 c2 c3 c4 hA hO hN _ _ (hne _ hE) cE (cm _ hX2) cS (fun k hk => set_bit g i c k hi hc hk)
    · by_cases hE : eraE g a1 = 0
      · obtain ⟨i, rfl⟩ := Int.eq_ofNat_of_zero_le ((checkN_zero _ _).1 (era_ok _ _ hE).1).2.1
        obtain ⟨eE, hi⟩ := era_val g i hE
        rw [hE, eE] at cE
        have hX1 := WM.withN_lt g i (eraC g) (eraC_ok g).1
        refine holds_en g i c W _ _ _ (WM.withN g i (eraC g)) 0 hc hi ck c1 c2 c3 c4 hA hO hN (WM.freeN (WM.withN g i (eraC g))) (WM.matchN (WM.withN g i (eraC g)) 128) cE ?_ ?_ ?_ (cl _ hg) (cl _ hX1) ((WM.matchN g 128 : Int) != 0) rfl ?_ (era_free g i hi) (WM.freeN_lt g) ?_ _ _ (hne _ hS) cS
        · exact ⟨fun w => by have := valid_any (WM.withN g i (eraC g)) w (by omega) (by omega); rw [Int.toNat_natCast, era_valid g i hi hv] at this; exact this⟩
        · exact ⟨fun w => free_any (WM.withN g i (eraC g)) w (by omega) (by omega)⟩
        · exact ⟨fun w => empties_any (WM.withN g i (eraC g)) w (by omega) (by omega)⟩
        · have := era_empty g i hi
          rw [Bool.eq_iff_iff]; simp; omega
        · intro k hk
          by_cases h : k = i
          · left; simp [h]
          · right; refine ⟨by simp; omega, ?_⟩
            rw [WM.lane_with g i _ k (eraC_ok g).1 hk, if_neg h]
      · exact holds_nn g a1 c W _ _ _ 0 0 hc ck c1 c2 c3 c4 hA hO hN _ _ (hne _ hE) cE _ _ (hne _ hS) cS
end Go.Proofs.YtjeekfeimogehaaDoor
