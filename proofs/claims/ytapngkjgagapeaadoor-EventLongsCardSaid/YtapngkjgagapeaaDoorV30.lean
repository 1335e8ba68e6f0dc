import Derived.Test.YtapngkjgagapeaaDoorV29
/- EventLongs within the limits. -/
namespace Go.Proofs.YtapngkjgagapeaaDoor
open Go.RowKit
theorem blk_at {w : World} {o : Obj} {n : Nat} (h : w.heap.size = n) : (w.alloc o).heap[n]? = some o := h ▸ newblk w o
theorem blk_dr {w : World} {o : Obj} {n : Nat} (h : w.heap[n]? = some o) : w.drew.heap[n]? = some o := Ext.blk (Ext.drew1 (Below.refl _ _)) h
theorem blk_up {w : World} {o o' : Obj} {n : Nat} (h : w.heap[n]? = some o) : (w.alloc o').heap[n]? = some o := Ext.blk (Ext.alloc (Below.refl _ _) _) h
set_option maxRecDepth 100000 in
set_option maxHeartbeats 8000000 in
theorem longs_bad (key value : Int) (W : World) (ht : EnvV W) (h1 : -1 ≤ key) (h2 : key ≤ 1) (h3 : -1 ≤ value) (h4 : value ≤ 1) (hb : 0 < key ∧ decide (key ≤ 0) = false ∧ decide (0 < key) = true ∨ 0 < value ∧ decide (key ≤ 0) = true ∧ decide (0 < key) = false ∧ decide (value ≤ 0) = false ∧ decide (0 < value) = true) :
    Calls Tryd.prog 4 #[.int .i64 key, .int .i64 value] W fun e W' => e = .returned (.bool true) ∧ Below W.heap.size W W' := by
  have ck : Box (∀ w, Ext W w → Calls Tryd.prog 11 #[] w fun e w' => e = .returned (.bool true) ∧ Ext w w') := ⟨fun w h => known_any w (ht.ext h)⟩
  obtain ⟨K, hK⟩ : ∃ K : Nat, 250 + key = (K : Int) := ⟨(250 + key).toNat, by omega⟩
  obtain ⟨V, hV⟩ : ∃ V : Nat, 65536 + value = (V : Int) := ⟨(65536 + value).toNat, by omega⟩
  obtain ⟨cK, mK, bK⟩ := make_u8 K (by omega)
  obtain ⟨cV, mV, bV⟩ := make_u8 V (by omega)
  have qK : IntKind.i64.wrap (250 + key) = (K : Int) := by rw [hK, IntKind.wrap_i64]; omega
  have qV : IntKind.i64.wrap (65536 + value) = (V : Int) := by rw [hV, IntKind.wrap_i64]; omega
  have qK2 : wrap64 (250 + key) = (K : Int) := by rw [hK]; unfold wrap64; omega
  have qV2 : wrap64 (65536 + value) = (V : Int) := by rw [hV]; unfold wrap64; omega
  have d1 : decide (key < -1) = false := decide_eq_false (by omega)
  have d2 : decide (1 < key) = false := decide_eq_false (by omega)
  have d3 : decide (value < -1) = false := decide_eq_false (by omega)
  have d4 : decide (1 < value) = false := decide_eq_false (by omega)
  obtain ⟨lK, hlK⟩ : ∃ l : List UInt8, l = List.replicate K 0 := ⟨_, rfl⟩
  obtain ⟨lV, hlV⟩ : ∃ l : List UInt8, l = List.replicate V 0 := ⟨_, rfl⟩
  have nK : lK.length = K := by rw [hlK, List.length_replicate]
  have nV : lV.length = V := by rw [hlV, List.length_replicate]
  rw [← hlK] at bK
  rw [← hlV] at bV
  obtain ⟨sK, hsK⟩ : ∃ s : ByteArray, s = ⟨lK.toArray⟩ := ⟨_, rfl⟩
  have zK : sK.size = K := by rw [hsK, ← nK]; rfl
  have cvK : ∀ (wx : World) (B : Nat), wx.heap[B]? = some (.cells cK 5 (0, 0)) → (convert 24 9 (.slice (some ⟨B, 0, none⟩) K K)).run Tryd.prog wx = .ok (.string sK) wx := fun wx B h => by rw [hsK]; exact (bK wx B h).conv
  have BV := Box.mk bV
  have y0 : (convert 24 9 (.slice (some ⟨W.heap.size, 0, none⟩) K K)).run Tryd.prog (W.alloc (.cells cK 5)).drew = .ok (.string sK) (W.alloc (.cells cK 5)).drew := cvK _ _ (blk_dr (blk_at (by simp)))
  have y1 : (convert 24 9 (.slice (some ⟨W.heap.size, 0, none⟩) K K)).run Tryd.prog ((W.alloc (.cells cK 5)).alloc (.cells cV 5)).drew = .ok (.string sK) ((W.alloc (.cells cK 5)).alloc (.cells cV 5)).drew := cvK _ _ (blk_dr (blk_up (blk_at (by simp))))
  have y2 : (convert 24 9 (.slice (some ⟨W.heap.size, 0, none⟩) K K)).run Tryd.prog ((W.alloc (.cells cK 5)).alloc (.cells #[.int .i64 0, .string ⟨#[]⟩, .slice none 0 0, .int .u64 0, .int .u64 0, .int .u64 0] 28)).drew = .ok (.string sK) ((W.alloc (.cells cK 5)).alloc (.cells #[.int .i64 0, .string ⟨#[]⟩, .slice none 0 0, .int .u64 0, .int .u64 0, .int .u64 0] 28)).drew := cvK _ _ (blk_dr (blk_up (blk_at (by simp))))
  have y3 : (convert 24 9 (.slice (some ⟨W.heap.size + 1, 0, none⟩) K K)).run Tryd.prog ((W.alloc (.cells cV 5)).alloc (.cells cK 5)).drew = .ok (.string sK) ((W.alloc (.cells cV 5)).alloc (.cells cK 5)).drew := cvK _ _ (blk_dr (blk_at (by simp)))
  have y4 : (convert 24 9 (.slice (some ⟨W.heap.size + 1, 0, none⟩) K K)).run Tryd.prog ((W.alloc (.cells #[.int .i64 0, .string ⟨#[]⟩, .slice none 0 0, .int .u64 0, .int .u64 0, .int .u64 0] 28)).alloc (.cells cK 5)).drew = .ok (.string sK) ((W.alloc (.cells #[.int .i64 0, .string ⟨#[]⟩, .slice none 0 0, .int .u64 0, .int .u64 0, .int .u64 0] 28)).alloc (.cells cK 5)).drew := cvK _ _ (blk_dr (blk_at (by simp)))
  have y5 : (convert 24 9 (.slice (some ⟨W.heap.size, 0, none⟩) K K)).run Tryd.prog (((W.alloc (.cells cK 5)).alloc (.cells cV 5)).alloc (.cells #[.int .i64 0, .string ⟨#[]⟩, .slice none 0 0, .int .u64 0, .int .u64 0, .int .u64 0] 28)).drew = .ok (.string sK) (((W.alloc (.cells cK 5)).alloc (.cells cV 5)).alloc (.cells #[.int .i64 0, .string ⟨#[]⟩, .slice none 0 0, .int .u64 0, .int .u64 0, .int .u64 0] 28)).drew := cvK _ _ (blk_dr (blk_up (blk_up (blk_at (by simp)))))
  have y6 : (convert 24 9 (.slice (some ⟨W.heap.size, 0, none⟩) K K)).run Tryd.prog (((W.alloc (.cells cK 5)).alloc (.cells #[.int .i64 0, .string ⟨#[]⟩, .slice none 0 0, .int .u64 0, .int .u64 0, .int .u64 0] 28)).alloc (.cells cV 5)).drew = .ok (.string sK) (((W.alloc (.cells cK 5)).alloc (.cells #[.int .i64 0, .string ⟨#[]⟩, .slice none 0 0, .int .u64 0, .int .u64 0, .int .u64 0] 28)).alloc (.cells cV 5)).drew := cvK _ _ (blk_dr (blk_up (blk_up (blk_at (by simp)))))
  have y7 : (convert 24 9 (.slice (some ⟨W.heap.size + 1, 0, none⟩) K K)).run Tryd.prog (((W.alloc (.cells cV 5)).alloc (.cells cK 5)).alloc (.cells #[.int .i64 0, .string ⟨#[]⟩, .slice none 0 0, .int .u64 0, .int .u64 0, .int .u64 0] 28)).drew = .ok (.string sK) (((W.alloc (.cells cV 5)).alloc (.cells cK 5)).alloc (.cells #[.int .i64 0, .string ⟨#[]⟩, .slice none 0 0, .int .u64 0, .int .u64 0, .int .u64 0] 28)).drew := cvK _ _ (blk_dr (blk_up (blk_at (by simp))))
  have y8 : (convert 24 9 (.slice (some ⟨W.heap.size + 1 + 1, 0, none⟩) K K)).run Tryd.prog (((W.alloc (.cells cV 5)).alloc (.cells #[.int .i64 0, .string ⟨#[]⟩, .slice none 0 0, .int .u64 0, .int .u64 0, .int .u64 0] 28)).alloc (.cells cK 5)).drew = .ok (.string sK) (((W.alloc (.cells cV 5)).alloc (.cells #[.int .i64 0, .string ⟨#[]⟩, .slice none 0 0, .int .u64 0, .int .u64 0, .int .u64 0] 28)).alloc (.cells cK 5)).drew := cvK _ _ (blk_dr (blk_at (by simp)))
  have y9 : (convert 24 9 (.slice (some ⟨W.heap.size + 1, 0, none⟩) K K)).run Tryd.prog (((W.alloc (.cells #[.int .i64 0, .string ⟨#[]⟩, .slice none 0 0, .int .u64 0, .int .u64 0, .int .u64 0] 28)).alloc (.cells cK 5)).alloc (.cells cV 5)).drew = .ok (.string sK) (((W.alloc (.cells #[.int .i64 0, .string ⟨#[]⟩, .slice none 0 0, .int .u64 0, .int .u64 0, .int .u64 0] 28)).alloc (.cells cK 5)).alloc (.cells cV 5)).drew := cvK _ _ (blk_dr (blk_up (blk_at (by simp))))
  have y10 : (convert 24 9 (.slice (some ⟨W.heap.size + 1 + 1, 0, none⟩) K K)).run Tryd.prog (((W.alloc (.cells #[.int .i64 0, .string ⟨#[]⟩, .slice none 0 0, .int .u64 0, .int .u64 0, .int .u64 0] 28)).alloc (.cells cV 5)).alloc (.cells cK 5)).drew = .ok (.string sK) (((W.alloc (.cells #[.int .i64 0, .string ⟨#[]⟩, .slice none 0 0, .int .u64 0, .int .u64 0, .int .u64 0] 28)).alloc (.cells cV 5)).alloc (.cells cK 5)).drew := cvK _ _ (blk_dr (blk_at (by simp)))
  have hz : okV 4 sK.size V 18446744073709551615 18446744073709551614 5 = false := by
    rw [zK]
    have : fineN K V 18446744073709551615 = false := by
      unfold fineN chk
      rw [decide_eq_false_iff_not]
      have hq : 250 < K ∨ 65536 < V := by omega
      rcases hq with hq | hq
      · have hv : vk K = false := by unfold vk; simp; omega
        rw [hv]; simp
      · split
        · decide
        · decide
    unfold okV
    rw [this]; simp
  have cVal : Box (∀ (a : Option Addr) (w : World), Calls Tryd.prog 14 #[.agg #[.int .i64 4, .string sK, .slice a V V, .int .u64 18446744073709551615, .int .u64 18446744073709551614, .int .u64 5]] w fun e w' => e = .returned (.bool false) ∧ Ext w w') := ⟨fun a w => by
    have h9 := vvalid_any 4 sK a V V 18446744073709551615 18446744073709551614 5 w (by omega) (by omega) (by decide) (by decide) (by decide)
    rw [hz] at h9; exact h9⟩
  have cX : Box (∀ (a : Option Addr) (w : World), Calls Tryd.prog 15 #[.agg #[.int .i64 4, .string sK, .slice a V V, .int .u64 18446744073709551615, .int .u64 18446744073709551614, .int .u64 5], .string ⟨#[]⟩, .int .i64 2] w fun e w' => e = .returned (.bool true) ∧ Ext w w') := ⟨fun a w => writes_bad 4 sK a V V 18446744073709551615 18446744073709551614 5 w (by omega) (by omega) (by decide) (by decide) (by decide) hz⟩
  have cN : Box (∀ w : World, Calls Tryd.prog 16 #[] w fun e w' => ∃ S, e = .returned (.pointer (some ⟨S, 0, none⟩)) ∧ Box (Strm w' S [] (fun _ => 0) 0) ∧ Ext w w') := ⟨fun w => (new_any w).mono fun e w' ⟨h1, h2, h3⟩ => ⟨_, h1, ⟨h2⟩, h3⟩⟩
  have cA : Box (∀ (S : Nat) (a : Option Addr) (w : World), Box (Strm w S [] (fun _ => 0) 0) → Calls Tryd.prog 17 #[.pointer (some ⟨S, 0, none⟩), .agg #[.int .i64 4, .string sK, .slice a V V, .int .u64 18446744073709551615, .int .u64 18446744073709551614, .int .u64 5]] w fun e w' => e = .returned (.int .i64 2) ∧ Ext w w') := ⟨fun S a w h => Add_bad S [] (fun _ => 0) 0 4 sK a V V 18446744073709551615 18446744073709551614 5 w h.out (by omega) (by omega) (by decide) (by decide) (by decide) hz⟩
  clear cvK bK bV hK hV nK nV zK hsK hlK hlV ht h1 h2 h3 h4 hz
  obtain ⟨_, hd⟩ | ⟨_, hd⟩ := hb
  all_goals obtain ⟨p1, p2, p3⟩ | ⟨p1, p2⟩ : (decide (key ≤ 0) = true ∧ decide (0 < key) = false ∧ decide (value ≤ 0) = false ∧ decide (0 < value) = true) ∨ (decide (key ≤ 0) = false ∧ decide (0 < key) = true) := by first | exact Or.inl hd | exact Or.inr hd
  all_goals
    (try obtain ⟨p3, p4⟩ := p3)
    clear hd
    go_enter Tryd.func4, Tryd.ntmps4
    go_upto_region 3 with fail
    go_cut [5] from 22 to 30 (fun s5 wx => ∃ (E A : Nat), s5 = .pointer (some ⟨E, 0, none⟩) ∧ wx.heap[E]? = some (.cells #[.int .i64 4, .string sK, .slice (some ⟨A, 0, none⟩) V V, .int .u64 18446744073709551615, .int .u64 18446744073709551614, .int .u64 5] 28 (0, 0)) ∧ wx.heap[A]? = some (.cells cV 5 (0, 0)) ∧ Ext W wx)
    case first =>
      go_region
      all_goals
        go_wp2_with fail
        go_meet
      all_goals first
        | exact ⟨_, _, rfl, blk_dr (blk_at (by simp)), blk_dr (blk_up (blk_at (by simp))), by go_grown⟩
        | exact ⟨_, _, rfl, blk_dr (blk_at (by simp)), blk_dr (blk_up (blk_up (blk_at (by simp)))), by go_grown⟩
        | exact ⟨_, _, rfl, blk_dr (blk_up (blk_at (by simp))), blk_dr (blk_at (by simp)), by go_grown⟩
        | exact ⟨_, _, rfl, blk_dr (blk_up (blk_up (blk_at (by simp)))), blk_dr (blk_at (by simp)), by go_grown⟩
        | exact ⟨_, _, rfl, blk_dr (blk_up (blk_at (by simp))), blk_dr (blk_up (blk_up (blk_at (by simp)))), by go_grown⟩
        | exact ⟨_, _, rfl, blk_dr (blk_up (blk_up (blk_at (by simp)))), blk_dr (blk_up (blk_at (by simp))), by go_grown⟩
    case rest =>
      obtain ⟨E, A, rfl, hE, hA, hx⟩ := hcut
      obtain ⟨m0, m1, m2, m3, m4, m5⟩ := blk6 hE
      go_upto_region 7 with (first
        | (go_at_call 14; (with_reducible refine (cVal.out _ _).mono ?_); rintro e w1 ⟨rfl, hb⟩; have hx := Ext.trans' hx hb; have hE := Ext.blk hb hE; have hA := Ext.blk hb hA; (try clear m0 m1 m2 m3 m4 m5); obtain ⟨m0, m1, m2, m3, m4, m5⟩ := blk6 hE))
      have hx := Ext.drew1 hx
      have hE := Ext.blk (Ext.drew1 (Below.refl _ _)) hE; have hA := Ext.blk (Ext.drew1 (Below.refl _ _)) hA; (try clear m0 m1 m2 m3 m4 m5); obtain ⟨m0, m1, m2, m3, m4, m5⟩ := blk6 hE
      refine wp_region_held_drew (S := (fun w' => w'.cell? ⟨E, 0, none⟩ = some (.int .i64 4) ∧ w'.cell? ⟨E, 1, none⟩ = some (.string sK) ∧ w'.cell? ⟨E, 2, none⟩ = some (.slice (some ⟨A, 0, none⟩) V V) ∧ w'.cell? ⟨E, 3, none⟩ = some (.int .u64 18446744073709551615) ∧ w'.cell? ⟨E, 4, none⟩ = some (.int .u64 18446744073709551614) ∧ w'.cell? ⟨E, 5, none⟩ = some (.int .u64 5))) (by kernel_rfl) ?_ (fun hHeld => ?_)
      · (try dsimp only); (exact ⟨m0, m1, m2, m3, m4, m5⟩)
      refine takeD (i := 0) (d := (some 45)) (v := ?_) rfl (by kernel_rfl) (by kernel_rfl) (by kernel_rfl) (by kernel_rfl) (fun _ _ _ h => h) (Or.inl ⟨by kernel_rfl, ?rgy⟩) (by assumption) ?rgn
      case rgy => (intro w hSw; (try dsimp only at hSw); go_simp; (try with_reducible rfl))
      case rgn =>
        (try simp only [Act.put, List.setIfInBounds_toArray, List.set_cons_zero, List.set_cons_succ])
        refine wpAnyH_ready (rs := [1]) (by kernel_rfl) (by simp) ?_
        refine AllReadyH.cons rfl (fun K hK => ?_) AllReadyH.nil
        go_simp
        (go_at_call 15; (with_reducible refine (cX.out _ _).mono ?_); rintro e w1 ⟨rfl, hb⟩; have hx := Ext.trans' hx hb; have hE := Ext.blk hb hE; have hA := Ext.blk hb hA; (try clear m0 m1 m2 m3 m4 m5); obtain ⟨m0, m1, m2, m3, m4, m5⟩ := blk6 hE)
        (try go_wp2_with fail)
        refine hK.out _ _ ?_ (fun hHeld => ?_)
        · (try dsimp only); (exact ⟨m0, m1, m2, m3, m4, m5⟩)
        clear hK K
        (try simp only [Act.put, List.setIfInBounds_toArray, List.set_cons_zero, List.set_cons_succ])
        refine takeD (i := 2) (d := (some 47)) (v := ?_) rfl (by kernel_rfl) (by kernel_rfl) (by kernel_rfl) (by kernel_rfl) (fun _ _ _ h => h) (Or.inl ⟨by kernel_rfl, ?rgy⟩) (by assumption) ?rgn
        case rgy => (intro w hSw; (try dsimp only at hSw); go_simp; (try with_reducible rfl))
        case rgn =>
          (try simp only [Act.put, List.setIfInBounds_toArray, List.set_cons_zero, List.set_cons_succ])
          refine takeD (i := 4) (d := (some 49)) (v := ?_) rfl (by kernel_rfl) (by kernel_rfl) (by kernel_rfl) (by kernel_rfl) (fun _ _ _ h => h) (Or.inl ⟨by kernel_rfl, ?rgy⟩) (by assumption) ?rgn
          case rgy => (intro w hSw; (try dsimp only at hSw); go_simp; (try with_reducible rfl))
          case rgn =>
            (try simp only [Act.put, List.setIfInBounds_toArray, List.set_cons_zero, List.set_cons_succ])
            refine wpAnyH_ready (rs := [3]) (by kernel_rfl) (by simp) ?_
            refine AllReadyH.cons rfl (fun K hK => ?_) AllReadyH.nil
            go_simp
            (go_at_call 16; (with_reducible refine (cN.out _).mono ?_); rintro e w1 ⟨S, rfl, hS, hb⟩; have hx := Ext.trans' hx hb; have hE := Ext.blk hb hE; (try clear m0 m1 m2 m3 m4 m5); obtain ⟨m0, m1, m2, m3, m4, m5⟩ := blk6 hE)
            (try go_wp2_with fail)
            refine hK.out _ _ ?_ (fun hHeld => ?_)
            · (try dsimp only); (exact ⟨m0, m1, m2, m3, m4, m5⟩)
            clear hK K
            (try simp only [Act.put, List.setIfInBounds_toArray, List.set_cons_zero, List.set_cons_succ])
            refine wpAnyH_ready (rs := [5]) (by kernel_rfl) (by simp) ?_
            refine AllReadyH.cons rfl (fun K hK => ?_) AllReadyH.nil
            go_simp
            (go_at_call 17; (with_reducible refine (cA.out _ _ _ hS).mono ?_); rintro e w1 ⟨rfl, hb⟩; have hx := Ext.trans' hx hb; have hE := Ext.blk hb hE; (try clear m0 m1 m2 m3 m4 m5); obtain ⟨m0, m1, m2, m3, m4, m5⟩ := blk6 hE)
            (try go_wp2_with fail)
            refine hK.out _ _ ?_ (fun hHeld => ?_)
            · (try dsimp only); (exact ⟨m0, m1, m2, m3, m4, m5⟩)
            clear hK K
            (try simp only [Act.put, List.setIfInBounds_toArray, List.set_cons_zero, List.set_cons_succ])
            refine takeD (i := 6) (d := (some 51)) (v := ?_) rfl (by kernel_rfl) (by kernel_rfl) (by kernel_rfl) (by kernel_rfl) (fun _ _ _ h => h) (Or.inl ⟨by kernel_rfl, ?rgy⟩) (by assumption) ?rgn
            case rgy => (intro w hSw; (try dsimp only at hSw); go_simp; (try with_reducible rfl))
            case rgn =>
              (try simp only [Act.put, List.setIfInBounds_toArray, List.set_cons_zero, List.set_cons_succ])
              refine takeD (i := 7) (d := (some 52)) (v := ?_) rfl (by kernel_rfl) (by kernel_rfl) (by kernel_rfl) (by kernel_rfl) (fun _ _ _ h => h) (Or.inl ⟨by kernel_rfl, ?rgy⟩) (by assumption) ?rgn
              case rgy => (intro w hSw; (try dsimp only at hSw); go_simp; (try with_reducible rfl))
              case rgn =>
                (try simp only [Act.put, List.setIfInBounds_toArray, List.set_cons_zero, List.set_cons_succ])
                refine takeD (i := 8) (d := (some 53)) (v := ?_) rfl (by kernel_rfl) (by kernel_rfl) (by kernel_rfl) (by kernel_rfl) (fun _ _ _ h => h) (Or.inl ⟨by kernel_rfl, ?rgy⟩) (by assumption) ?rgn
                case rgy => (intro w hSw; (try dsimp only at hSw); go_simp; (try with_reducible rfl))
                case rgn =>
                  (try simp only [Act.put, List.setIfInBounds_toArray, List.set_cons_zero, List.set_cons_succ])
                  refine wpAnyH_ready (rs := [9]) (by kernel_rfl) (by simp) ?_
                  refine AllReadyH.cons rfl (fun K hK => ?_) AllReadyH.nil
                  go_simp
                  (go_at_call 11; (with_reducible refine (ck.out _ hx).mono ?_); rintro e w1 ⟨rfl, hb⟩; have hx := Ext.trans' hx hb; have hE := Ext.blk hb hE; (try clear m0 m1 m2 m3 m4 m5); obtain ⟨m0, m1, m2, m3, m4, m5⟩ := blk6 hE)
                  (try go_wp2_with fail)
                  refine hK.out _ _ ?_ (fun hHeld => ?_)
                  · (try dsimp only); (exact ⟨m0, m1, m2, m3, m4, m5⟩)
                  clear hK K
                  (try simp only [Act.put, List.setIfInBounds_toArray, List.set_cons_zero, List.set_cons_succ])
                  refine takeD (i := 10) (d := (some 55)) (v := ?_) rfl (by kernel_rfl) (by kernel_rfl) (by kernel_rfl) (by kernel_rfl) (fun _ _ _ h => h) (Or.inl ⟨by kernel_rfl, ?rgy⟩) (by assumption) ?rgn
                  case rgy => (intro w hSw; (try dsimp only at hSw); go_simp; (try with_reducible rfl))
                  case rgn =>
                    (try simp only [Act.put, List.setIfInBounds_toArray, List.set_cons_zero, List.set_cons_succ])
                    refine takeD (i := 11) (d := (some 4)) (v := ?_) rfl (by kernel_rfl) (by kernel_rfl) (by kernel_rfl) (by kernel_rfl) (fun _ _ _ h => h) (Or.inl ⟨by kernel_rfl, ?rgy⟩) (by assumption) ?rgn
                    case rgy => (intro w hSw; (try dsimp only at hSw); go_simp; (try with_reducible rfl))
                    case rgn =>
                      (try simp only [Act.put, List.setIfInBounds_toArray, List.set_cons_zero, List.set_cons_succ])
                      refine wpAnyH_done (by kernel_rfl) ?_ _
                      go_wp2
                      go_ret
                      exact ⟨rfl, hx⟩
end Go.Proofs.YtapngkjgagapeaaDoor
