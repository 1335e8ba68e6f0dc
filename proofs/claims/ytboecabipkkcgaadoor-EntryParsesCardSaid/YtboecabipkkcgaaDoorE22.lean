import Derived.Test.YtboecabipkkcgaaDoorE21
/- The reference's Parse: its whole contract; the law's walk: EntryParses. -/
namespace Go.Proofs.YtboecabipkkcgaaDoor
open Go.RowKit

theorem split_len : ∀ l : List UInt8, ∀ p ∈ splitL l, p.length ≤ l.length := by
  intro l
  induction l with
  | nil => intro p hp; simp [splitL] at hp; subst hp; simp
  | cons c r ih =>
    intro p hp
    rw [splitL] at hp
    split at hp
    · rcases List.mem_cons.1 hp with rfl | h
      · simp
      · have := ih p h; simp; omega
    · split at hp
      · rename_i q qs he
        rcases List.mem_cons.1 hp with rfl | h
        · have := ih q (by rw [he]; simp); simp; omega
        · have := ih p (by rw [he]; simp [h]); simp; omega
      · simp at hp; subst hp; simp
def fin4 (ob od : Option Nat) (ok ov : Option (List UInt8)) : Option Ent :=
  match ob, od, ok, ov with
  | some b, some d, some k, some v => if (Ent.mk k v d b).fine = true then some ⟨k, v, d, b⟩ else none
  | _, _, _, _ => none
theorem refE_four (l : List UInt8) (p0 p1 p2 p3 : List UInt8) (h : splitL l = [p0, p1, p2, p3]) : refE l = fin4 (birthR p0) (parseT p1) (decL p2) (decL p3) := by
  unfold refE fin4; rw [h]; rfl
theorem refE_len (l : List UInt8) (h : (splitL l).length ≠ 4) : refE l = none := by
  unfold refE
  split
  · rename_i p0 p1 p2 p3 hp; rw [hp] at h; exact absurd rfl h
  · rfl
theorem four (l : List (List UInt8)) (h : l.length = 4) : ∃ p0 p1 p2 p3, l = [p0, p1, p2, p3] := by
  match l, h with
  | [a, b, c, d], _ => exact ⟨a, b, c, d, rfl⟩

structure Parts (s : ByteArray) (w : World) (p0 p1 p2 p3 : List UInt8) : Prop where
  cS : Box (Calls Tryd.prog 39 #[.string s] (w.alloc (.cells zeroC 33)) fun e w' => ∃ v, e = .returned v ∧ w'.ownsRow (w.heap.size + 1) 9 1 v 4 [.string ⟨p0.toArray⟩, .string ⟨p1.toArray⟩, .string ⟨p2.toArray⟩, .string ⟨p3.toArray⟩] ∧ Ext (w.alloc (.cells zeroC 33)) w')
  cB0 : Box (∀ w, Calls Tryd.prog 40 #[.string ⟨p0.toArray⟩] w fun e w' => e = .returned (.tuple #[.int .u64 (pV (parseT p0)), .bool (pB (parseT p0))]) ∧ w = w')
  cB1 : Box (∀ w, Calls Tryd.prog 40 #[.string ⟨p1.toArray⟩] w fun e w' => e = .returned (.tuple #[.int .u64 (pV (parseT p1)), .bool (pB (parseT p1))]) ∧ w = w')
  cD2 : Box (∀ w, Calls Tryd.prog 41 #[.string ⟨p2.toArray⟩] w fun e w' => ∃ v, e = .returned (.tuple #[v, .bool (decL p2).isSome]) ∧ OwnB w.heap.size w' v ((decL p2).getD []) ∧ Ext w w')
  cD3 : Box (∀ w, Calls Tryd.prog 41 #[.string ⟨p3.toArray⟩] w fun e w' => ∃ v, e = .returned (.tuple #[v, .bool (decL p3).isSome]) ∧ OwnB w.heap.size w' v ((decL p3).getD []) ∧ Ext w w')
  l2 : ((decL p2).getD []).length ≤ 100000
  l3 : ((decL p3).getD []).length ≤ 100000
theorem dec_getD (p : List UInt8) (h : p.length ≤ 100000) : ((decL p).getD []).length ≤ 100000 := by
  cases hd : decL p with
  | none => simp
  | some r => have := dec_len p r hd; simp; omega
theorem parts_of (s : ByteArray) (w : World) (hs : s.size ≤ 100000) (p0 p1 p2 p3 : List UInt8) (hp : splitL s.data.toList = [p0, p1, p2, p3]) : Parts s w p0 p1 p2 p3 := by
  have hl : ∀ p ∈ [p0, p1, p2, p3], p.length ≤ 100000 := fun p h => by
    have := split_len s.data.toList p (by rw [hp]; exact h)
    rw [lst_len] at this; omega
  have h0 := hl p0 (by simp)
  have h1 := hl p1 (by simp)
  have h2 := hl p2 (by simp)
  have h3 := hl p3 (by simp)
  refine ⟨⟨?_⟩, ⟨fun w => refParse_any ⟨p0.toArray⟩ w ?_⟩, ⟨fun w => refParse_any ⟨p1.toArray⟩ w ?_⟩, ⟨fun w => rbytes_any ⟨p2.toArray⟩ w ?_⟩, ⟨fun w => rbytes_any ⟨p3.toArray⟩ w ?_⟩, dec_getD p2 h2, dec_getD p3 h3⟩
  · have h := split_any s (w.alloc (.cells zeroC 33)) hs
    rw [hp, show (w.alloc (.cells zeroC 33)).heap.size = w.heap.size + 1 by simp] at h
    exact h
  · show p0.toArray.size ≤ _; rw [List.size_toArray]; omega
  · show p1.toArray.size ≤ _; rw [List.size_toArray]; omega
  · show p2.toArray.size ≤ _; rw [List.size_toArray]; omega
  · show p3.toArray.size ≤ _; rw [List.size_toArray]; omega

theorem valid_of (k v : List UInt8) (d b : Nat) (hk : k.length ≤ 100000) (hv : v.length ≤ 100000) (hb : b < 18446744073709551616) :
    Box (∀ a c w, Calls Tryd.prog 42 #[.agg #[.string ⟨k.toArray⟩, .slice a v.length c, .int .u64 d, .int .u64 b]] w fun e w' => e = .returned (.bool (Ent.mk k v d b).fine) ∧ Ext w w') := ⟨fun a c w => by
  have h := refEvalid_any ⟨k.toArray⟩ a v.length c d b w (by show k.toArray.size ≤ _; rw [List.size_toArray]; omega) (by omega) hb
  have e1 : fineN (⟨k.toArray⟩ : ByteArray).size v.length b = (Ent.mk k v d b).fine := by
    show fineN k.toArray.size v.length b = _
    rw [List.size_toArray, Bool.eq_iff_iff, fine_chk]
    simp [fineN]
  rw [e1] at h
  exact h⟩

theorem rp_max (s : ByteArray) (w : World) (p0 p1 p2 p3 : List UInt8) (P : Parts s w p0 p1 p2 p3) (hm : p0 = maxL) :
    Calls Tryd.prog 18 #[.string s] w (RPost w (fin4 (some never) (parseT p1) (decL p2) (decL p3))) := by
  obtain ⟨cS, cB0, cB1, cD2, cD3, l2, l3⟩ := P
  have t1 := eq_test ⟨p0.toArray⟩ _ hm
  cases h1 : parseT p1 with
  | none => rw [h1] at cB1; exact rp_max2 s w _ _ _ _ _ _ _ _ _ _ _ l2 l3 cS cB0 cB1 cD2 cD3 t1
  | some d =>
    rw [h1] at cB1
    cases h2 : decL p2 with
    | none => rw [h2] at cD2 l2; exact rp_max3 s w _ _ _ _ _ _ _ _ _ _ l2 l3 cS cB0 cB1 cD2 cD3 t1
    | some k =>
      rw [h2] at cD2 l2
      cases h3 : decL p3 with
      | none => rw [h3] at cD3 l3; exact rp_max4 s w _ _ _ _ _ _ _ _ _ l2 l3 cS cB0 cB1 cD2 cD3 t1
      | some v =>
        rw [h3] at cD3 l3
        have cV := valid_of k v d never l2 l3 (by decide)
        show Calls Tryd.prog 18 #[.string s] w (RPost w (if (Ent.mk k v d never).fine = true then some ⟨k, v, d, never⟩ else none))
        cases hf : (Ent.mk k v d never).fine with
        | false => rw [hf] at cV; exact rp_max5 s w _ _ _ _ _ _ _ _ _ l2 l3 cS cB0 cB1 cD2 cD3 cV t1
        | true => rw [hf] at cV; exact rp_max6 s w _ _ _ _ _ _ _ _ _ l2 l3 cS cB0 cB1 cD2 cD3 cV t1
theorem rp_else (s : ByteArray) (w : World) (p0 p1 p2 p3 : List UInt8) (P : Parts s w p0 p1 p2 p3) (hm : p0 ≠ maxL) (hn : p0 ≠ neverL) :
    Calls Tryd.prog 18 #[.string s] w (RPost w (fin4 (parseT p0) (parseT p1) (decL p2) (decL p3))) := by
  obtain ⟨cS, cB0, cB1, cD2, cD3, l2, l3⟩ := P
  have t1 := ne_test ⟨p0.toArray⟩ _ hm
  have t2 := ne_test ⟨p0.toArray⟩ _ hn
  cases h0 : parseT p0 with
  | none => rw [h0] at cB0; exact rp_else1 s w _ _ _ _ _ _ _ _ _ _ _ l2 l3 cS cB0 cB1 cD2 cD3 t1 t2
  | some b =>
  have hb : b < 18446744073709551616 := by have := parseT_le _ _ h0; unfold never at this; omega
  rw [h0] at cB0
  cases h1 : parseT p1 with
  | none => rw [h1] at cB1; exact rp_else2 s w _ _ _ _ _ _ _ _ _ _ l2 l3 cS cB0 cB1 cD2 cD3 t1 t2
  | some d =>
    rw [h1] at cB1
    cases h2 : decL p2 with
    | none => rw [h2] at cD2 l2; exact rp_else3 s w _ _ _ _ _ _ _ _ _ l2 l3 cS cB0 cB1 cD2 cD3 t1 t2
    | some k =>
      rw [h2] at cD2 l2
      cases h3 : decL p3 with
      | none => rw [h3] at cD3 l3; exact rp_else4 s w _ _ _ _ _ _ _ _ l2 l3 cS cB0 cB1 cD2 cD3 t1 t2
      | some v =>
        rw [h3] at cD3 l3
        have cV := valid_of k v d b l2 l3 hb
        show Calls Tryd.prog 18 #[.string s] w (RPost w (if (Ent.mk k v d b).fine = true then some ⟨k, v, d, b⟩ else none))
        cases hf : (Ent.mk k v d b).fine with
        | false => rw [hf] at cV; exact rp_else5 s w _ _ _ _ _ _ _ _ l2 l3 cS cB0 cB1 cD2 cD3 cV t1 t2
        | true => rw [hf] at cV; exact rp_else6 s w _ _ _ _ _ _ _ _ l2 l3 cS cB0 cB1 cD2 cD3 cV t1 t2
theorem refEparse_any (s : ByteArray) (w : World) (hs : s.size ≤ 100000) : Calls Tryd.prog 18 #[.string s] w (RPost w (parseE s.data.toList)) := by
  rw [← refE_eq]
  by_cases h4 : (splitL s.data.toList).length = 4
  · obtain ⟨p0, p1, p2, p3, hp⟩ := four _ h4
    have P := parts_of s w hs p0 p1 p2 p3 hp
    rw [refE_four _ _ _ _ _ hp]
    unfold birthR
    by_cases hm : p0 = maxL
    · rw [if_pos hm]; exact rp_max s w p0 p1 p2 p3 P hm
    · rw [if_neg hm]
      by_cases hn : p0 = neverL
      · rw [if_pos hn]
        obtain ⟨cS, cB0, cB1, cD2, cD3, l2, l3⟩ := P
        exact rp_never1 s w _ _ _ _ _ _ _ _ _ _ _ _ l2 l3 cS cB0 cB1 cD2 cD3 (ne_test ⟨p0.toArray⟩ _ hm) (eq_test ⟨p0.toArray⟩ _ hn)
      · rw [if_neg hn]; exact rp_else s w p0 p1 p2 p3 P hm hn
  · rw [refE_len _ h4]; exact rp_len s w hs h4

set_option maxRecDepth 100000 in
set_option maxHeartbeats 4000000 in
theorem lawEntryParses_walk (s : ByteArray) (W : World) (hs : s.size ≤ maxLen) (ht : Env W) :
    Calls Tryd.prog 5 #[.string s] W fun e W' => e = .returned (.bool true) ∧ Below W.heap.size W W' := by
  unfold maxLen at hs
  have ck : Box (∀ w, Ext W w → Calls Tryd.prog 9 #[] w fun e w' => e = .returned (.bool true) ∧ Ext w w') := ⟨fun w h => known_any w (ht.ext h)⟩
  have hx : Ext W W := Below.refl _ _
  by_cases h : s.size ≤ 700
  · have cR : Box _ := ⟨fun (w : World) => refEparse_any s w (by omega)⟩
    have cP : Box (∀ w, Ext W w → _) := ⟨fun (w : World) hx => eparse_any s w (by omega) (ht.ext hx)⟩
    cases hp : parseE s.data.toList with
    | none =>
      rw [hp] at cR
      have cR : Box (∀ w, Calls Tryd.prog 18 #[.string s] w fun e w' => e = .returned (.tuple #[zeroE, .bool false]) ∧ Ext w w') := cR
      have cw : Box (∀ w, Ext W w → _) := ⟨fun (w : World) hx => wrongf_any s w (by omega) (ht.ext hx) hp⟩
      clear hp ht hs cP
      go_enter Tryd.func5, Tryd.ntmps5
      go_wp2_with (first
        | (go_at_call 18; (with_reducible refine (cR.out _).mono ?_); rintro e w1 ⟨rfl, hb⟩; have hx := Ext.alloc (Ext.trans' hx hb) (.cells zeroC 33))
        | (go_at_call 19; (with_reducible refine (cw.out _ hx).mono ?_); rintro e w1 ⟨rfl, hb⟩; have hx := Ext.trans' hx hb)
        | (go_at_call 9; (with_reducible refine (ck.out _ hx).mono ?_); rintro e w1 ⟨rfl, hb⟩; have hx := Ext.trans' hx hb))
      go_ret
      exact ⟨rfl, hx⟩
    | some x =>
      obtain ⟨hin, hfi, _⟩ := parseE_of _ _ hp
      rw [hp] at cR cP
      obtain ⟨k, l, d, b⟩ := x
      have hl : l.length ≤ 65536 := by unfold Ent.fine at hfi; simp at hfi; omega
      have cR : Box (∀ w, Calls Tryd.prog 18 #[.string s] w fun e w' => ∃ v', e = .returned (.tuple #[.agg #[.string ⟨k.toArray⟩, v', .int .u64 d, .int .u64 b], .bool true]) ∧ OwnB w.heap.size w' v' l ∧ Ext w w') := cR
      have cP : Box (∀ w, Ext W w → Calls Tryd.prog 20 #[.string s] w fun e w' => ∃ v', e = .returned (.tuple #[.agg #[.string ⟨k.toArray⟩, v', .int .u64 d, .int .u64 b], .int .i64 0]) ∧ OwnB w.heap.size w' v' l ∧ Ext w w') := cP
      have cE : Box (∀ v1 v2 w, By w v1 l → By w v2 l → Calls Tryd.prog 21 #[.agg #[.string ⟨k.toArray⟩, v1, .int .u64 d, .int .u64 b], .agg #[.string ⟨k.toArray⟩, v2, .int .u64 d, .int .u64 b]] w fun e w' => e = .returned (.bool true) ∧ Ext w w') := ⟨fun v1 v2 w h1 h2 => by
        have h := refEqual_any ⟨k.toArray⟩ ⟨k.toArray⟩ v1 v2 l l d d b b w h1 h2
        rw [show eqN ⟨k.toArray⟩ ⟨k.toArray⟩ l l d d b b = true by simp [eqN]] at h
        exact h⟩
      clear hp ht hs hin hfi
      go_enter Tryd.func5, Tryd.ntmps5
      go_wp2_with (first
        | (go_at_call 18; (with_reducible refine (cR.out _).mono ?_); rintro e w1 ⟨v1, rfl, ho, hb⟩; obtain ⟨a1, c1, rfl⟩ := ho.shape; have hA := newblk w1 (.cells #[.string ⟨k.toArray⟩, .slice a1 l.length c1, .int .u64 d, .int .u64 b] 33); have hv1 := By.ext (Ext.alloc (Below.refl _ _) (.cells #[.string ⟨k.toArray⟩, .slice a1 l.length c1, .int .u64 d, .int .u64 b] 33)) (ho.by (by omega)); have hx := Ext.alloc (Ext.trans' hx hb) (.cells #[.string ⟨k.toArray⟩, .slice a1 l.length c1, .int .u64 d, .int .u64 b] 33))
        | (go_at_call 20; (with_reducible refine (cP.out _ hx).mono ?_); rintro e w2 ⟨v2, rfl, ho2, hb⟩; obtain ⟨a2, c2, rfl⟩ := ho2.shape; have hA := Ext.blk hb hA; have hlt := blk_lt hA; have hE := newblk w2 (.cells #[.string ⟨k.toArray⟩, .slice a2 l.length c2, .int .u64 d, .int .u64 b] 33); obtain ⟨u0, u1, u2, u3, _⟩ := blk4 hA; have hv1 := By.ext (Ext.alloc (Below.refl _ _) (.cells #[.string ⟨k.toArray⟩, .slice a2 l.length c2, .int .u64 d, .int .u64 b] 33)) (hv1.ext hb); have hv2 := By.ext (Ext.alloc (Below.refl _ _) (.cells #[.string ⟨k.toArray⟩, .slice a2 l.length c2, .int .u64 d, .int .u64 b] 33)) (ho2.by (by omega)); have hx := Ext.alloc (Ext.trans' hx hb) (.cells #[.string ⟨k.toArray⟩, .slice a2 l.length c2, .int .u64 d, .int .u64 b] 33))
        | (go_at_call 21; (with_reducible refine (cE.out _ _ _ hv2 hv1).mono ?_); rintro e w1 ⟨rfl, hb⟩; have hx := Ext.trans' hx hb)
        | (go_at_call 9; (with_reducible refine (ck.out _ hx).mono ?_); rintro e w1 ⟨rfl, hb⟩; have hx := Ext.trans' hx hb))
      go_ret
      exact ⟨rfl, hx⟩
  · clear hs ht
    go_enter Tryd.func5, Tryd.ntmps5
    go_wp2_with (first | (go_at_call 9; (with_reducible refine (ck.out _ hx).mono ?_); rintro e w1 ⟨rfl, hb⟩; have hx := Ext.trans' hx hb))
    go_ret
    exact ⟨rfl, hx⟩
end Go.Proofs.YtboecabipkkcgaaDoor
