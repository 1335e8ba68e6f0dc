import Derived.Test.YtapngkjgagapeaaDoorV30
/- EventLongs within the limits: a valid event; the walk of EventLongs. -/
namespace Go.Proofs.YtapngkjgagapeaaDoor
open Go.RowKit
set_option maxRecDepth 100000 in
set_option maxHeartbeats 8000000 in
theorem longs_ok (key value : Int) (W : World) (ht : EnvV W) (h1 : -1 ≤ key) (h2 : key ≤ 0) (h3 : -1 ≤ value) (h4 : value ≤ 0) :
    Calls Tryd.prog 4 #[.int .i64 key, .int .i64 value] W fun e W' => e = .returned (.bool true) ∧ Below W.heap.size W W' := by
  have p1 : decide (key ≤ 0) = true := decide_eq_true h2
  have p2 : decide (0 < key) = false := decide_eq_false (by omega)
  have p3 : decide (value ≤ 0) = true := decide_eq_true h4
  have p4 : decide (0 < value) = false := decide_eq_false (by omega)
  have ck : Box (∀ w, Ext W w → Calls Tryd.prog 11 #[] w fun e w' => e = .returned (.bool true) ∧ Ext w w') := ⟨fun w h => known_any w (ht.ext h)⟩
  obtain ⟨K, hK⟩ : ∃ K : Nat, 250 + key = (K : Int) := ⟨(250 + key).toNat, by omega⟩
  obtain ⟨V, hV⟩ : ∃ V : Nat, 65536 + value = (V : Int) := ⟨(65536 + value).toNat, by omega⟩
  obtain ⟨cK, mK, bK⟩ := make_u8 K (by omega)
  obtain ⟨cV, mV, bV⟩ := make_u8 V (by omega)
  have qK : IntKind.i64.wrap (250 + key) = (K : Int) := by rw [hK, IntKind.wrap_i64]; omega
  have qV : IntKind.i64.wrap (65536 + value) = (V : Int) := by rw [hV, IntKind.wrap_i64]; omega
  have qK2 : wrap64 (250 + key) = (K : Int) := by rw [hK]; unfold wrap64; omega
  have qV2 : wrap64 (65536 + value) = (V : Int) := by rw [hV]; unfold wrap64; omega
  have d1 : decide (key < -1) = false := decide_eq_false (by omega)
  have d2 : decide (1 < key) = false := decide_eq_false (by omega)
  have d3 : decide (value < -1) = false := decide_eq_false (by omega)
  have d4 : decide (1 < value) = false := decide_eq_false (by omega)
  obtain ⟨lK, hlK⟩ : ∃ l : List UInt8, l = List.replicate K 0 := ⟨_, rfl⟩
  obtain ⟨lV, hlV⟩ : ∃ l : List UInt8, l = List.replicate V 0 := ⟨_, rfl⟩
  have nK : lK.length = K := by rw [hlK, List.length_replicate]
  have nV : lV.length = V := by rw [hlV, List.length_replicate]
  rw [← hlK] at bK
  rw [← hlV] at bV
  obtain ⟨sK, hsK⟩ : ∃ s : ByteArray, s = ⟨lK.toArray⟩ := ⟨_, rfl⟩
  have zK : sK.size = K := by rw [hsK, ← nK]; rfl
  have cvK : ∀ (wx : World) (B : Nat), wx.heap[B]? = some (.cells cK 5 (0, 0)) → (convert 24 9 (.slice (some ⟨B, 0, none⟩) K K)).run Tryd.prog wx = .ok (.string sK) wx := fun wx B h => by rw [hsK]; exact (bK wx B h).conv
  have BV := Box.mk bV
  have y0 : (convert 24 9 (.slice (some ⟨W.heap.size, 0, none⟩) K K)).run Tryd.prog (W.alloc (.cells cK 5)).drew = .ok (.string sK) (W.alloc (.cells cK 5)).drew := cvK _ _ (blk_dr (blk_at (by simp)))
  have y1 : (convert 24 9 (.slice (some ⟨W.heap.size, 0, none⟩) K K)).run Tryd.prog ((W.alloc (.cells cK 5)).alloc (.cells cV 5)).drew = .ok (.string sK) ((W.alloc (.cells cK 5)).alloc (.cells cV 5)).drew := cvK _ _ (blk_dr (blk_up (blk_at (by simp))))
  have y2 : (convert 24 9 (.slice (some ⟨W.heap.size, 0, none⟩) K K)).run Tryd.prog ((W.alloc (.cells cK 5)).alloc (.cells #[.int .i64 0, .string ⟨#[]⟩, .slice none 0 0, .int .u64 0, .int .u64 0, .int .u64 0] 28)).drew = .ok (.string sK) ((W.alloc (.cells cK 5)).alloc (.cells #[.int .i64 0, .string ⟨#[]⟩, .slice none 0 0, .int .u64 0, .int .u64 0, .int .u64 0] 28)).drew := cvK _ _ (blk_dr (blk_up (blk_at (by simp))))
  have y3 : (convert 24 9 (.slice (some ⟨W.heap.size + 1, 0, none⟩) K K)).run Tryd.prog ((W.alloc (.cells cV 5)).alloc (.cells cK 5)).drew = .ok (.string sK) ((W.alloc (.cells cV 5)).alloc (.cells cK 5)).drew := cvK _ _ (blk_dr (blk_at (by simp)))
  have y4 : (convert 24 9 (.slice (some ⟨W.heap.size + 1, 0, none⟩) K K)).run Tryd.prog ((W.alloc (.cells #[.int .i64 0, .string ⟨#[]⟩, .slice none 0 0, .int .u64 0, .int .u64 0, .int .u64 0] 28)).alloc (.cells cK 5)).drew = .ok (.string sK) ((W.alloc (.cells #[.int .i64 0, .string ⟨#[]⟩, .slice none 0 0, .int .u64 0, .int .u64 0, .int .u64 0] 28)).alloc (.cells cK 5)).drew := cvK _ _ (blk_dr (blk_at (by simp)))
  have y5 : (convert 24 9 (.slice (some ⟨W.heap.size, 0, none⟩) K K)).run Tryd.prog (((W.alloc (.cells cK 5)).alloc (.cells cV 5)).alloc (.cells #[.int .i64 0, .string ⟨#[]⟩, .slice none 0 0, .int .u64 0, .int .u64 0, .int .u64 0] 28)).drew = .ok (.string sK) (((W.alloc (.cells cK 5)).alloc (.cells cV 5)).alloc (.cells #[.int .i64 0, .string ⟨#[]⟩, .slice none 0 0, .int .u64 0, .int .u64 0, .int .u64 0] 28)).drew := cvK _ _ (blk_dr (blk_up (blk_up (blk_at (by simp)))))
  have y6 : (convert 24 9 (.slice (some ⟨W.heap.size, 0, none⟩) K K)).run Tryd.prog (((W.alloc (.cells cK 5)).alloc (.cells #[.int .i64 0, .string ⟨#[]⟩, .slice none 0 0, .int .u64 0, .int .u64 0, .int .u64 0] 28)).alloc (.cells cV 5)).drew = .ok (.string sK) (((W.alloc (.cells cK 5)).alloc (.cells #[.int .i64 0, .string ⟨#[]⟩, .slice none 0 0, .int .u64 0, .int .u64 0, .int .u64 0] 28)).alloc (.cells cV 5)).drew := cvK _ _ (blk_dr (blk_up (blk_up (blk_at (by simp)))))
  have y7 : (convert 24 9 (.slice (some ⟨W.heap.size + 1, 0, none⟩) K K)).run Tryd.prog (((W.alloc (.cells cV 5)).alloc (.cells cK 5)).alloc (.cells #[.int .i64 0, .string ⟨#[]⟩, .slice none 0 0, .int .u64 0, .int .u64 0, .int .u64 0] 28)).drew = .ok (.string sK) (((W.alloc (.cells cV 5)).alloc (.cells cK 5)).alloc (.cells #[.int .i64 0, .string ⟨#[]⟩, .slice none 0 0, .int .u64 0, .int .u64 0, .int .u64 0] 28)).drew := cvK _ _ (blk_dr (blk_up (blk_at (by simp))))
  have y8 : (convert 24 9 (.slice (some ⟨W.heap.size + 1 + 1, 0, none⟩) K K)).run Tryd.prog (((W.alloc (.cells cV 5)).alloc (.cells #[.int .i64 0, .string ⟨#[]⟩, .slice none 0 0, .int .u64 0, .int .u64 0, .int .u64 0] 28)).alloc (.cells cK 5)).drew = .ok (.string sK) (((W.alloc (.cells cV 5)).alloc (.cells #[.int .i64 0, .string ⟨#[]⟩, .slice none 0 0, .int .u64 0, .int .u64 0, .int .u64 0] 28)).alloc (.cells cK 5)).drew := cvK _ _ (blk_dr (blk_at (by simp)))
  have y9 : (convert 24 9 (.slice (some ⟨W.heap.size + 1, 0, none⟩) K K)).run Tryd.prog (((W.alloc (.cells #[.int .i64 0, .string ⟨#[]⟩, .slice none 0 0, .int .u64 0, .int .u64 0, .int .u64 0] 28)).alloc (.cells cK 5)).alloc (.cells cV 5)).drew = .ok (.string sK) (((W.alloc (.cells #[.int .i64 0, .string ⟨#[]⟩, .slice none 0 0, .int .u64 0, .int .u64 0, .int .u64 0] 28)).alloc (.cells cK 5)).alloc (.cells cV 5)).drew := cvK _ _ (blk_dr (blk_up (blk_at (by simp))))
  have y10 : (convert 24 9 (.slice (some ⟨W.heap.size + 1 + 1, 0, none⟩) K K)).run Tryd.prog (((W.alloc (.cells #[.int .i64 0, .string ⟨#[]⟩, .slice none 0 0, .int .u64 0, .int .u64 0, .int .u64 0] 28)).alloc (.cells cV 5)).alloc (.cells cK 5)).drew = .ok (.string sK) (((W.alloc (.cells #[.int .i64 0, .string ⟨#[]⟩, .slice none 0 0, .int .u64 0, .int .u64 0, .int .u64 0] 28)).alloc (.cells cV 5)).alloc (.cells cK 5)).drew := cvK _ _ (blk_dr (blk_at (by simp)))
  have hz : okV 4 sK.size V 18446744073709551615 18446744073709551614 5 = true := by
    rw [zK]
    have : fineN K V 18446744073709551615 = true := by
      unfold fineN chk
      have hv : vk K = true := by unfold vk; simp; omega
      have hq : ¬ 65536 < V := by omega
      simp [hv, hq]
    unfold okV
    rw [this]; decide
  have cVal : Box (∀ (a : Option Addr) (w : World), Calls Tryd.prog 14 #[.agg #[.int .i64 4, .string sK, .slice a V V, .int .u64 18446744073709551615, .int .u64 18446744073709551614, .int .u64 5]] w fun e w' => e = .returned (.bool true) ∧ Ext w w') := ⟨fun a w => by
    have h9 := vvalid_any 4 sK a V V 18446744073709551615 18446744073709551614 5 w (by omega) (by omega) (by decide) (by decide) (by decide)
    rw [hz] at h9; exact h9⟩
  obtain ⟨tx, htx⟩ : ∃ t : ByteArray, t = ⟨(Evt.text ⟨4, ⟨sK.data.toList, lV, 18446744073709551614, 18446744073709551615⟩, 5⟩).toArray⟩ := ⟨_, rfl⟩
  have cT : Box (∀ (a : Option Addr) (w : World), By w (.slice a V V) lV → Calls Tryd.prog 18 #[.agg #[.int .i64 4, .string sK, .slice a V V, .int .u64 18446744073709551615, .int .u64 18446744073709551614, .int .u64 5]] w fun e w' => e = .returned (.string tx) ∧ Ext w w') := ⟨fun a w h => by
    have h9 := rvtext_any 4 sK a lV V 18446744073709551615 18446744073709551614 5 w (by omega) (by omega) (by omega) (by omega) (by decide) (by decide) (by decide) (by rw [nV]; exact h)
    rw [nV, ← htx] at h9; exact h9⟩
  have cX : Box (∀ (a : Option Addr) (w : World), By w (.slice a V V) lV → Ext W w → Calls Tryd.prog 15 #[.agg #[.int .i64 4, .string sK, .slice a V V, .int .u64 18446744073709551615, .int .u64 18446744073709551614, .int .u64 5], .string tx, .int .i64 0] w fun e w' => e = .returned (.bool true) ∧ Ext w w') := ⟨fun a w h hw => by
    have h9 := writes_ok 4 sK a lV V 18446744073709551615 18446744073709551614 5 tx w (by omega) (by omega) (by decide) (by decide) (by decide) (by rw [nV]; exact hz) (by rw [nV]; exact h) (ht.ext hw) (by rw [htx]; rfl)
    rw [nV] at h9; exact h9⟩
  have hF : Evt.fine ⟨4, ⟨sK.data.toList, lV, 18446744073709551614, 18446744073709551615⟩, 5⟩ = true := by 
    have kl : sK.data.toList.length = K := by rw [← zK, Array.length_toList]; rfl
    have e1 : decide (1 ≤ K) = true := decide_eq_true (by omega)
    have e2 : decide (K ≤ 250) = true := decide_eq_true (by omega)
    have e3 : decide (V ≤ 65536) = true := decide_eq_true (by omega)
    unfold Evt.fine Ent.fine
    simp only [kl, nV, e1, e2, e3]
    first | decide | rfl | simp [dueB, never]
  have hIn : Evt.In ⟨4, ⟨sK.data.toList, lV, 18446744073709551614, 18446744073709551615⟩, 5⟩ := ⟨⟨by show 18446744073709551614 ≤ never; decide, by show 18446744073709551615 ≤ never; decide⟩, by show 5 ≤ never; decide⟩
  have hL := Evt.tlen hIn hF
  have cP : Box (∀ (a : Option Addr) (w : World), By w (.slice a V V) lV → Ext W w → Calls Tryd.prog 13 #[.string tx, .agg #[.int .i64 4, .string sK, .slice a V V, .int .u64 18446744073709551615, .int .u64 18446744073709551614, .int .u64 5], .int .i64 0] w fun e w' => e = .returned (.bool true) ∧ Ext w w') := ⟨fun a w h hw => by
    have h9 := parses_some tx w (by rw [htx]; show (Evt.text _).toArray.size ≤ _; simp only [List.size_toArray]; omega) (ht.ext hw) ⟨4, ⟨sK.data.toList, lV, 18446744073709551614, 18446744073709551615⟩, 5⟩ (by rw [htx]; exact parseV_text _ hIn hF) a V (by show By w (.slice a lV.length V) lV; rw [nV]; exact h)
    have e9 : bs sK.data.toList = sK := rfl
    simp only [e9, nV] at h9; exact h9⟩
  clear cvK bK bV hK hV nK nV zK hsK hlK hlV ht h1 h2 h3 h4 hz hIn hF htx hL
  go_enter Tryd.func4, Tryd.ntmps4
  go_upto_region 3 with fail
  go_cut [5] from 22 to 30 (fun s5 wx => ∃ (E A : Nat), s5 = .pointer (some ⟨E, 0, none⟩) ∧ wx.heap[E]? = some (.cells #[.int .i64 4, .string sK, .slice (some ⟨A, 0, none⟩) V V, .int .u64 18446744073709551615, .int .u64 18446744073709551614, .int .u64 5] 28 (0, 0)) ∧ wx.heap[A]? = some (.cells cV 5 (0, 0)) ∧ Ext W wx)
  case first =>
    go_region
    all_goals
      go_wp2_with fail
      go_meet
    all_goals first
      | exact ⟨_, _, rfl, blk_dr (blk_at (by simp)), blk_dr (blk_up (blk_at (by simp))), by go_grown⟩
      | exact ⟨_, _, rfl, blk_dr (blk_at (by simp)), blk_dr (blk_up (blk_up (blk_at (by simp)))), by go_grown⟩
      | exact ⟨_, _, rfl, blk_dr (blk_up (blk_at (by simp))), blk_dr (blk_at (by simp)), by go_grown⟩
      | exact ⟨_, _, rfl, blk_dr (blk_up (blk_up (blk_at (by simp)))), blk_dr (blk_at (by simp)), by go_grown⟩
      | exact ⟨_, _, rfl, blk_dr (blk_up (blk_at (by simp))), blk_dr (blk_up (blk_up (blk_at (by simp)))), by go_grown⟩
      | exact ⟨_, _, rfl, blk_dr (blk_up (blk_up (blk_at (by simp)))), blk_dr (blk_up (blk_at (by simp))), by go_grown⟩
  case rest =>
    obtain ⟨E, A, rfl, hE, hA, hx⟩ := hcut
    obtain ⟨m0, m1, m2, m3, m4, m5⟩ := blk6 hE
    go_wp2_with (first
      | (go_at_call 14; (with_reducible refine (cVal.out _ _).mono ?_); rintro e w1 ⟨rfl, hb⟩; have hx := Ext.trans' hx hb; have hE := Ext.blk hb hE; have hA := Ext.blk hb hA; (try clear m0 m1 m2 m3 m4 m5); obtain ⟨m0, m1, m2, m3, m4, m5⟩ := blk6 hE)
      | (go_at_call 18; (with_reducible refine (cT.out _ _ (BV.out _ _ hA)).mono ?_); rintro e w1 ⟨rfl, hb⟩; have hx := Ext.trans' hx hb; have hE := Ext.blk hb hE; have hA := Ext.blk hb hA; (try clear m0 m1 m2 m3 m4 m5); obtain ⟨m0, m1, m2, m3, m4, m5⟩ := blk6 hE)
      | (go_at_call 15; (with_reducible refine (cX.out _ _ (BV.out _ _ hA) hx).mono ?_); rintro e w1 ⟨rfl, hb⟩; have hx := Ext.trans' hx hb; have hE := Ext.blk hb hE; have hA := Ext.blk hb hA; (try clear m0 m1 m2 m3 m4 m5); obtain ⟨m0, m1, m2, m3, m4, m5⟩ := blk6 hE)
      | (go_at_call 13; (with_reducible refine (cP.out _ _ (BV.out _ _ hA) hx).mono ?_); rintro e w1 ⟨rfl, hb⟩; have hx := Ext.trans' hx hb; have hE := Ext.blk hb hE; have hA := Ext.blk hb hA; (try clear m0 m1 m2 m3 m4 m5); obtain ⟨m0, m1, m2, m3, m4, m5⟩ := blk6 hE)
      | (go_at_call 11; (with_reducible refine (ck.out _ hx).mono ?_); rintro e w1 ⟨rfl, hb⟩; have hx := Ext.trans' hx hb; have hE := Ext.blk hb hE; have hA := Ext.blk hb hA; (try clear m0 m1 m2 m3 m4 m5); obtain ⟨m0, m1, m2, m3, m4, m5⟩ := blk6 hE))
    go_ret
    exact ⟨rfl, hx⟩
theorem lawEventLongs_walk (key value : Int) (W : World) (w0 : (Lit.int .i64 key).wf = true) (w1 : (Lit.int .i64 value).wf = true) (ht : EnvV W) :
    Calls Tryd.prog 4 #[.int .i64 key, .int .i64 value] W fun e W' => e = .returned (.bool true) ∧ Below W.heap.size W W' := by
  by_cases ho : -1 ≤ key ∧ key ≤ 1 ∧ -1 ≤ value ∧ value ≤ 1
  · obtain ⟨h1, h2, h3, h4⟩ := ho
    by_cases hk : key ≤ 0
    · by_cases hv : value ≤ 0
      · exact longs_ok key value W ht h1 hk h3 hv
      · exact longs_bad key value W ht h1 h2 h3 h4 (Or.inr ⟨by omega, decide_eq_true hk, decide_eq_false (by omega), decide_eq_false hv, decide_eq_true (by omega)⟩)
    · exact longs_bad key value W ht h1 h2 h3 h4 (Or.inl ⟨by omega, decide_eq_false hk, decide_eq_true (by omega)⟩)
  · exact longs_out key value W ht ho
end Go.Proofs.YtapngkjgagapeaaDoor
