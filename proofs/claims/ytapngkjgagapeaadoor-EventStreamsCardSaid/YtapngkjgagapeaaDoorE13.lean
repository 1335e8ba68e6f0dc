import Derived.Test.YtapngkjgagapeaaDoorE12
/- The contract of Parse of package entry, where all parts are read. -/
namespace Go.Proofs.YtapngkjgagapeaaDoor
open Go.RowKit

set_option maxRecDepth 100000 in
set_option maxHeartbeats 4000000 in
theorem eparse_A (s : ByteArray) (w : World) (hs : s.size ≤ 200000) (hw : Env w) (n1 n2 : Nat) (r3 r4 : List UInt8) (h1 : numO (cutA s.data.toList) = some n1) (h2 : parseT (cutA (cutZ s.data.toList)) = some n2) (h3 : decL (cutA (cutZ (cutZ s.data.toList))) = some r3) (h4 : decL (cutA (cutZ (cutZ (cutZ s.data.toList)))) = some r4) (hf : chk r3.length r4.length n1 = 0) (ht : Ent.text ⟨r3, r4, n2, n1⟩ = s.data.toList) :
    Calls Tryd.prog 63 #[.string s] w fun e w' => ∃ v', e = .returned (.tuple #[.agg #[.string ⟨r3.toArray⟩, v', .int .u64 n2, .int .u64 n1], .int .i64 0]) ∧ OwnB w.heap.size w' v' r4 ∧ Ext w w' := by
  obtain ⟨x1, y1, hx1, hy1, sx1, sy1, N1⟩ := parts_ex s hs
  obtain ⟨x2, y2, hx2, hy2, sx2, sy2, N2⟩ := parts_ex y1 sy1.out
  obtain ⟨x3, y3, hx3, hy3, sx3, sy3, N3⟩ := parts_ex y2 sy2.out
  obtain ⟨x4, y4, hx4, hy4, sx4, sy4, N4⟩ := parts_ex y3 sy3.out
  have q1 : Box (x1.data.toList = cutA s.data.toList) := hx1
  have q2 : Box (x2.data.toList = cutA (cutZ s.data.toList)) := ⟨by rw [hx2.out, hy1.out]⟩
  have q3 : Box (x3.data.toList = cutA (cutZ (cutZ s.data.toList))) := ⟨by rw [hx3.out, hy2.out, hy1.out]⟩
  have q4 : Box (x4.data.toList = cutA (cutZ (cutZ (cutZ s.data.toList)))) := ⟨by rw [hx4.out, hy3.out, hy2.out, hy1.out]⟩
  have hR : ((w.alloc (.cells zeroC 83)).alloc (.cells #[.string s] 9)).heap[w.heap.size]? = some (.cells zeroC 83 (0, 0)) := Ext.blk (Ext.alloc (Below.refl _ _) _) (newblk w _)
  have hB : ((w.alloc (.cells zeroC 83)).alloc (.cells #[.string s] 9)).heap[w.heap.size + 1]? = some (.cells #[.string s] 9 (0, 0)) := by
    have := newblk (w.alloc (.cells zeroC 83)) (.cells #[.string s] 9)
    simpa using this
  have hx : Ext w ((w.alloc (.cells zeroC 83)).alloc (.cells #[.string s] 9)) := Ext.alloc (Ext.alloc (Below.refl _ _) _) _
  have cP : Box (∀ w', Ext w w' → Calls Tryd.prog 70 #[.string x1, .int .i64 10, .int .i64 64] w' fun e w'' => e = .returned (.tuple #[.int .u64 n1, .nilIface]) ∧ Ext w' w'') := ⟨fun w' h => pu_some x1 n1 w' (by have := sx1.out; omega) (hw.ext h) (by rw [q1.out]; exact h1)⟩
  have cT : Box (∀ w', Ext w w' → Calls Tryd.prog 62 #[.string x2] w' fun e w'' => e = .returned (.tuple #[.int .u64 n2, .int .i64 0]) ∧ Ext w' w'') := ⟨fun w' h => by
    have := parse_any x2 w' (by have := sx2.out; omega) (hw.ext h)
    rw [q2.out, h2] at this; exact this⟩
  have cD3 : Box (∀ w', Calls Tryd.prog 72 #[.string x3] w' fun e w'' => ∃ v, e = .returned (.tuple #[v, .bool true]) ∧ OwnB w'.heap.size w'' v r3 ∧ Ext w' w'') := ⟨fun w' => by
    have := decode_gen x3 w' sx3.out
    rw [q3.out, h3] at this; exact this⟩
  have cD4 : Box (∀ w', Calls Tryd.prog 72 #[.string x4] w' fun e w'' => ∃ v, e = .returned (.tuple #[v, .bool true]) ∧ OwnB w'.heap.size w'' v r4 ∧ Ext w' w'') := ⟨fun w' => by
    have := decode_gen x4 w' sx4.out
    rw [q4.out, h4] at this; exact this⟩
  have l3 : r3.length ≤ 100000 := by
    have a := dec_len _ _ h3; have b := sx3.out; rw [← q3.out, lst_len] at a; omega
  have l4 : r4.length ≤ 100000 := by
    have a := dec_len _ _ h4; have b := sx4.out; rw [← q4.out, lst_len] at a; omega
  have b1 : n1 < 18446744073709551616 := by have := numO_le _ _ h1; unfold never at this; omega
  have b2 : n2 < 18446744073709551616 := by have := parseT_le _ _ h2; unfold never at this; omega
  have cX : Box (∀ v w', By w' v r4 → Ext w w' → Calls Tryd.prog 65 #[.agg #[.string ⟨r3.toArray⟩, v, .int .u64 n2, .int .u64 n1]] w' fun e w'' => e = .returned (.tuple #[.string s, .int .i64 0]) ∧ Ext w' w'') := ⟨fun v w' hv hx => by
    have := etext_ok ⟨r3.toArray⟩ v r4 n2 n1 w' l3 l4 b2 b1 hf hv (hw.tabs.ext hx)
    rw [show (⟨(Ent.text ⟨(⟨r3.toArray⟩ : ByteArray).data.toList, r4, n2, n1⟩).toArray⟩ : ByteArray) = s from str_ext ht] at this
    exact this⟩
  clear hx1 hy1 hx2 hy2 hx3 hy3 hx4 hy4 sx1 sy1 sx2 sy2 sx3 sy3 sx4 sy4 q1 q2 q3 q4
  clear h1 h2 h3 h4 hw hf ht
  go_enter Tryd.func63, Tryd.ntmps63
  go_wp2_with (first
    | (go_at_call 71; (with_reducible refine (N1.out _ _ hB).mono ?_); rintro e w1 ⟨rfl, hB1, hg⟩; have hx := Ext.next hx hg (by omega); have hR := (hg.block _ (blk_lt hR) (by simp)).trans hR; have hB := hB1)
    | (go_at_call 71; (with_reducible refine (N2.out _ _ hB).mono ?_); rintro e w1 ⟨rfl, hB1, hg⟩; have hx := Ext.next hx hg (by omega); have hR := (hg.block _ (blk_lt hR) (by simp)).trans hR; have hB := hB1)
    | (go_at_call 71; (with_reducible refine (N3.out _ _ hB).mono ?_); rintro e w1 ⟨rfl, hB1, hg⟩; have hx := Ext.next hx hg (by omega); have hR := (hg.block _ (blk_lt hR) (by simp)).trans hR; have hB := hB1)
    | (go_at_call 71; (with_reducible refine (N4.out _ _ hB).mono ?_); rintro e w1 ⟨rfl, hB1, hg⟩; have hx := Ext.next hx hg (by omega); have hR := (hg.block _ (blk_lt hR) (by simp)).trans hR; have ho3 := ho3.grown hg (Nat.lt_succ_self _); have hB := hB1)
    | (go_at_call 70; (with_reducible refine (cP.out _ hx).mono ?_); rintro e w1 ⟨rfl, hb⟩; have hx := Ext.trans' hx hb; have hR := Ext.blk hb hR; have hB := Ext.blk hb hB)
    | (go_at_call 62; (with_reducible refine (cT.out _ hx).mono ?_); rintro e w1 ⟨rfl, hb⟩; have hx := Ext.trans' hx hb; have hR := Ext.blk hb hR; have hB := Ext.blk hb hB)
    | (go_at_call 72; (with_reducible refine (cD3.out _).mono ?_); rintro e w1 ⟨v3, rfl, ho3, hb⟩; have ho3 := ho3.mono (C := w.heap.size + 1 + 1) (blk_lt hB); have hx := Ext.trans' hx hb; have hR := Ext.blk hb hR; have hB := Ext.blk hb hB; obtain ⟨a3, c3, rfl⟩ := ho3.shape)
    | (go_at_call 72; (with_reducible refine (cD4.out _).mono ?_); rintro e w1 ⟨v4, rfl, ho4, hb⟩; have ho4 := ho4.mono (C := w.heap.size + 1 + 1) (blk_lt hB); have hx := Ext.trans' hx hb; have hR := Ext.blk hb hR; have hB := Ext.blk hb hB; have ho3 := ho3.ext hb; have hcv := (ho3.by (by omega)).conv; obtain ⟨a4, c4, rfl⟩ := ho4.shape; have hv4 := By.ext (Ext.alloc (Below.refl _ _) (.cells #[.string ⟨r3.toArray⟩, .slice a4 r4.length c4, .int .u64 n2, .int .u64 n1] 83)) (ho4.by (by omega)); have hE := newblk w1 (.cells #[.string ⟨r3.toArray⟩, .slice a4 r4.length c4, .int .u64 n2, .int .u64 n1] 83))
    | (go_at_call 65; (with_reducible refine (cX.out _ _ hv4 (Ext.alloc hx _)).mono ?_); rintro e w2 ⟨rfl, hb⟩; have hx := Ext.trans' (Ext.alloc hx _) hb; have hR := Ext.blk hb (Ext.blk (Ext.alloc (Below.refl _ _) _) hR); have hE := Ext.blk hb hE; have ho4 := (ho4.ext (Ext.alloc (Below.refl _ _) _)).ext hb; obtain ⟨m0, m1, m2, m3, f0, f1, f2, f3⟩ := blk4 hR; obtain ⟨u0, u1, u2, u3, _⟩ := blk4 hE; clear hE hv4 hcv ho3))
  refine bodyPost_ret (v := .tuple #[.agg #[.string ⟨r3.toArray⟩, .slice a4 r4.length c4, .int .u64 n2, .int .u64 n1], .int .i64 0]) ?_ rfl ⟨_, rfl, (ho4.st4 (by omega) _ _ _ _).mono (by omega), Ext.st4 hx (Nat.le_refl _) _ _ _ _⟩
  simp [results, Tryd.results63, go_sem, m0, m1, m2, m3]

set_option maxRecDepth 100000 in
set_option maxHeartbeats 4000000 in
theorem eparse_B (s : ByteArray) (w : World) (hs : s.size ≤ 200000) (hw : Env w) (n1 n2 : Nat) (r3 r4 : List UInt8) (h1 : numO (cutA s.data.toList) = some n1) (h2 : parseT (cutA (cutZ s.data.toList)) = some n2) (h3 : decL (cutA (cutZ (cutZ s.data.toList))) = some r3) (h4 : decL (cutA (cutZ (cutZ (cutZ s.data.toList)))) = some r4) (hf : chk r3.length r4.length n1 ≠ 0) :
    Calls Tryd.prog 63 #[.string s] w fun e w' => e = .returned (.tuple #[zeroE, .int .i64 6]) ∧ Ext w w' := by
  obtain ⟨x1, y1, hx1, hy1, sx1, sy1, N1⟩ := parts_ex s hs
  obtain ⟨x2, y2, hx2, hy2, sx2, sy2, N2⟩ := parts_ex y1 sy1.out
  obtain ⟨x3, y3, hx3, hy3, sx3, sy3, N3⟩ := parts_ex y2 sy2.out
  obtain ⟨x4, y4, hx4, hy4, sx4, sy4, N4⟩ := parts_ex y3 sy3.out
  have q1 : Box (x1.data.toList = cutA s.data.toList) := hx1
  have q2 : Box (x2.data.toList = cutA (cutZ s.data.toList)) := ⟨by rw [hx2.out, hy1.out]⟩
  have q3 : Box (x3.data.toList = cutA (cutZ (cutZ s.data.toList))) := ⟨by rw [hx3.out, hy2.out, hy1.out]⟩
  have q4 : Box (x4.data.toList = cutA (cutZ (cutZ (cutZ s.data.toList)))) := ⟨by rw [hx4.out, hy3.out, hy2.out, hy1.out]⟩
  have hR : ((w.alloc (.cells zeroC 83)).alloc (.cells #[.string s] 9)).heap[w.heap.size]? = some (.cells zeroC 83 (0, 0)) := Ext.blk (Ext.alloc (Below.refl _ _) _) (newblk w _)
  have hB : ((w.alloc (.cells zeroC 83)).alloc (.cells #[.string s] 9)).heap[w.heap.size + 1]? = some (.cells #[.string s] 9 (0, 0)) := by
    have := newblk (w.alloc (.cells zeroC 83)) (.cells #[.string s] 9)
    simpa using this
  have hx : Ext w ((w.alloc (.cells zeroC 83)).alloc (.cells #[.string s] 9)) := Ext.alloc (Ext.alloc (Below.refl _ _) _) _
  have cP : Box (∀ w', Ext w w' → Calls Tryd.prog 70 #[.string x1, .int .i64 10, .int .i64 64] w' fun e w'' => e = .returned (.tuple #[.int .u64 n1, .nilIface]) ∧ Ext w' w'') := ⟨fun w' h => pu_some x1 n1 w' (by have := sx1.out; omega) (hw.ext h) (by rw [q1.out]; exact h1)⟩
  have cT : Box (∀ w', Ext w w' → Calls Tryd.prog 62 #[.string x2] w' fun e w'' => e = .returned (.tuple #[.int .u64 n2, .int .i64 0]) ∧ Ext w' w'') := ⟨fun w' h => by
    have := parse_any x2 w' (by have := sx2.out; omega) (hw.ext h)
    rw [q2.out, h2] at this; exact this⟩
  have cD3 : Box (∀ w', Calls Tryd.prog 72 #[.string x3] w' fun e w'' => ∃ v, e = .returned (.tuple #[v, .bool true]) ∧ OwnB w'.heap.size w'' v r3 ∧ Ext w' w'') := ⟨fun w' => by
    have := decode_gen x3 w' sx3.out
    rw [q3.out, h3] at this; exact this⟩
  have cD4 : Box (∀ w', Calls Tryd.prog 72 #[.string x4] w' fun e w'' => ∃ v, e = .returned (.tuple #[v, .bool true]) ∧ OwnB w'.heap.size w'' v r4 ∧ Ext w' w'') := ⟨fun w' => by
    have := decode_gen x4 w' sx4.out
    rw [q4.out, h4] at this; exact this⟩
  have l3 : r3.length ≤ 100000 := by
    have a := dec_len _ _ h3; have b := sx3.out; rw [← q3.out, lst_len] at a; omega
  have l4 : r4.length ≤ 100000 := by
    have a := dec_len _ _ h4; have b := sx4.out; rw [← q4.out, lst_len] at a; omega
  have b1 : n1 < 18446744073709551616 := by have := numO_le _ _ h1; unfold never at this; omega
  have b2 : n2 < 18446744073709551616 := by have := parseT_le _ _ h2; unfold never at this; omega
  obtain ⟨x, hne, cX⟩ : ∃ x : Int, x ≠ 0 ∧ Box (∀ v w', By w' v r4 → Ext w w' → Calls Tryd.prog 65 #[.agg #[.string ⟨r3.toArray⟩, v, .int .u64 n2, .int .u64 n1]] w' fun e w'' => e = .returned (.tuple #[.string ⟨#[]⟩, .int .i64 x]) ∧ Ext w' w'') := ⟨_, hf, ⟨fun v w' hv hx => etext_bad ⟨r3.toArray⟩ v r4 n2 n1 w' l3 b1 hf hv⟩⟩
  have e1 : (x != 0) = true := by rw [bne_iff_ne]; exact hne
  clear hx1 hy1 hx2 hy2 hx3 hy3 hx4 hy4 sx1 sy1 sx2 sy2 sx3 sy3 sx4 sy4 q1 q2 q3 q4
  clear h1 h2 h3 h4 hw hf hne
  go_enter Tryd.func63, Tryd.ntmps63
  go_wp2_with (first
    | (go_at_call 71; (with_reducible refine (N1.out _ _ hB).mono ?_); rintro e w1 ⟨rfl, hB1, hg⟩; have hx := Ext.next hx hg (by omega); have hR := (hg.block _ (blk_lt hR) (by simp)).trans hR; have hB := hB1)
    | (go_at_call 71; (with_reducible refine (N2.out _ _ hB).mono ?_); rintro e w1 ⟨rfl, hB1, hg⟩; have hx := Ext.next hx hg (by omega); have hR := (hg.block _ (blk_lt hR) (by simp)).trans hR; have hB := hB1)
    | (go_at_call 71; (with_reducible refine (N3.out _ _ hB).mono ?_); rintro e w1 ⟨rfl, hB1, hg⟩; have hx := Ext.next hx hg (by omega); have hR := (hg.block _ (blk_lt hR) (by simp)).trans hR; have hB := hB1)
    | (go_at_call 71; (with_reducible refine (N4.out _ _ hB).mono ?_); rintro e w1 ⟨rfl, hB1, hg⟩; have hx := Ext.next hx hg (by omega); have hR := (hg.block _ (blk_lt hR) (by simp)).trans hR; have ho3 := ho3.grown hg (Nat.lt_succ_self _); have hB := hB1)
    | (go_at_call 70; (with_reducible refine (cP.out _ hx).mono ?_); rintro e w1 ⟨rfl, hb⟩; have hx := Ext.trans' hx hb; have hR := Ext.blk hb hR; have hB := Ext.blk hb hB)
    | (go_at_call 62; (with_reducible refine (cT.out _ hx).mono ?_); rintro e w1 ⟨rfl, hb⟩; have hx := Ext.trans' hx hb; have hR := Ext.blk hb hR; have hB := Ext.blk hb hB)
    | (go_at_call 72; (with_reducible refine (cD3.out _).mono ?_); rintro e w1 ⟨v3, rfl, ho3, hb⟩; have ho3 := ho3.mono (C := w.heap.size + 1 + 1) (blk_lt hB); have hx := Ext.trans' hx hb; have hR := Ext.blk hb hR; have hB := Ext.blk hb hB; obtain ⟨a3, c3, rfl⟩ := ho3.shape)
    | (go_at_call 72; (with_reducible refine (cD4.out _).mono ?_); rintro e w1 ⟨v4, rfl, ho4, hb⟩; have ho4 := ho4.mono (C := w.heap.size + 1 + 1) (blk_lt hB); have hx := Ext.trans' hx hb; have hR := Ext.blk hb hR; have hB := Ext.blk hb hB; have ho3 := ho3.ext hb; have hcv := (ho3.by (by omega)).conv; obtain ⟨a4, c4, rfl⟩ := ho4.shape; have hv4 := By.ext (Ext.alloc (Below.refl _ _) (.cells #[.string ⟨r3.toArray⟩, .slice a4 r4.length c4, .int .u64 n2, .int .u64 n1] 83)) (ho4.by (by omega)); have hE := newblk w1 (.cells #[.string ⟨r3.toArray⟩, .slice a4 r4.length c4, .int .u64 n2, .int .u64 n1] 83))
    | (go_at_call 65; (with_reducible refine (cX.out _ _ hv4 (Ext.alloc hx _)).mono ?_); rintro e w2 ⟨rfl, hb⟩; have hx := Ext.trans' (Ext.alloc hx _) hb; have hR := Ext.blk hb (Ext.blk (Ext.alloc (Below.refl _ _) _) hR); have hE := Ext.blk hb hE; have ho4 := (ho4.ext (Ext.alloc (Below.refl _ _) _)).ext hb; obtain ⟨m0, m1, m2, m3, f0, f1, f2, f3⟩ := blk4 hR; obtain ⟨u0, u1, u2, u3, _⟩ := blk4 hE; clear hE hv4 hcv ho3))
  refine bodyPost_ret (v := .tuple #[zeroE, .int .i64 6]) ?_ rfl ⟨rfl, Ext.st4 hx (Nat.le_refl _) _ _ _ _⟩
  simp [results, Tryd.results63, go_sem, m0, m1, m2, m3]

set_option maxRecDepth 100000 in
set_option maxHeartbeats 4000000 in
theorem eparse_C (s : ByteArray) (w : World) (hs : s.size ≤ 200000) (hw : Env w) (n1 n2 : Nat) (r3 r4 : List UInt8) (h1 : numO (cutA s.data.toList) = some n1) (h2 : parseT (cutA (cutZ s.data.toList)) = some n2) (h3 : decL (cutA (cutZ (cutZ s.data.toList))) = some r3) (h4 : decL (cutA (cutZ (cutZ (cutZ s.data.toList)))) = some r4) (hf : chk r3.length r4.length n1 = 0) (ht : Ent.text ⟨r3, r4, n2, n1⟩ ≠ s.data.toList) :
    Calls Tryd.prog 63 #[.string s] w fun e w' => e = .returned (.tuple #[zeroE, .int .i64 6]) ∧ Ext w w' := by
  obtain ⟨x1, y1, hx1, hy1, sx1, sy1, N1⟩ := parts_ex s hs
  obtain ⟨x2, y2, hx2, hy2, sx2, sy2, N2⟩ := parts_ex y1 sy1.out
  obtain ⟨x3, y3, hx3, hy3, sx3, sy3, N3⟩ := parts_ex y2 sy2.out
  obtain ⟨x4, y4, hx4, hy4, sx4, sy4, N4⟩ := parts_ex y3 sy3.out
  have q1 : Box (x1.data.toList = cutA s.data.toList) := hx1
  have q2 : Box (x2.data.toList = cutA (cutZ s.data.toList)) := ⟨by rw [hx2.out, hy1.out]⟩
  have q3 : Box (x3.data.toList = cutA (cutZ (cutZ s.data.toList))) := ⟨by rw [hx3.out, hy2.out, hy1.out]⟩
  have q4 : Box (x4.data.toList = cutA (cutZ (cutZ (cutZ s.data.toList)))) := ⟨by rw [hx4.out, hy3.out, hy2.out, hy1.out]⟩
  have hR : ((w.alloc (.cells zeroC 83)).alloc (.cells #[.string s] 9)).heap[w.heap.size]? = some (.cells zeroC 83 (0, 0)) := Ext.blk (Ext.alloc (Below.refl _ _) _) (newblk w _)
  have hB : ((w.alloc (.cells zeroC 83)).alloc (.cells #[.string s] 9)).heap[w.heap.size + 1]? = some (.cells #[.string s] 9 (0, 0)) := by
    have := newblk (w.alloc (.cells zeroC 83)) (.cells #[.string s] 9)
    simpa using this
  have hx : Ext w ((w.alloc (.cells zeroC 83)).alloc (.cells #[.string s] 9)) := Ext.alloc (Ext.alloc (Below.refl _ _) _) _
  have cP : Box (∀ w', Ext w w' → Calls Tryd.prog 70 #[.string x1, .int .i64 10, .int .i64 64] w' fun e w'' => e = .returned (.tuple #[.int .u64 n1, .nilIface]) ∧ Ext w' w'') := ⟨fun w' h => pu_some x1 n1 w' (by have := sx1.out; omega) (hw.ext h) (by rw [q1.out]; exact h1)⟩
  have cT : Box (∀ w', Ext w w' → Calls Tryd.prog 62 #[.string x2] w' fun e w'' => e = .returned (.tuple #[.int .u64 n2, .int .i64 0]) ∧ Ext w' w'') := ⟨fun w' h => by
    have := parse_any x2 w' (by have := sx2.out; omega) (hw.ext h)
    rw [q2.out, h2] at this; exact this⟩
  have cD3 : Box (∀ w', Calls Tryd.prog 72 #[.string x3] w' fun e w'' => ∃ v, e = .returned (.tuple #[v, .bool true]) ∧ OwnB w'.heap.size w'' v r3 ∧ Ext w' w'') := ⟨fun w' => by
    have := decode_gen x3 w' sx3.out
    rw [q3.out, h3] at this; exact this⟩
  have cD4 : Box (∀ w', Calls Tryd.prog 72 #[.string x4] w' fun e w'' => ∃ v, e = .returned (.tuple #[v, .bool true]) ∧ OwnB w'.heap.size w'' v r4 ∧ Ext w' w'') := ⟨fun w' => by
    have := decode_gen x4 w' sx4.out
    rw [q4.out, h4] at this; exact this⟩
  have l3 : r3.length ≤ 100000 := by
    have a := dec_len _ _ h3; have b := sx3.out; rw [← q3.out, lst_len] at a; omega
  have l4 : r4.length ≤ 100000 := by
    have a := dec_len _ _ h4; have b := sx4.out; rw [← q4.out, lst_len] at a; omega
  have b1 : n1 < 18446744073709551616 := by have := numO_le _ _ h1; unfold never at this; omega
  have b2 : n2 < 18446744073709551616 := by have := parseT_le _ _ h2; unfold never at this; omega
  obtain ⟨T, hT, cX⟩ : ∃ T : ByteArray, T.data.toList ≠ s.data.toList ∧ Box (∀ v w', By w' v r4 → Ext w w' → Calls Tryd.prog 65 #[.agg #[.string ⟨r3.toArray⟩, v, .int .u64 n2, .int .u64 n1]] w' fun e w'' => e = .returned (.tuple #[.string T, .int .i64 0]) ∧ Ext w' w'') := ⟨_, ht, ⟨fun v w' hv hx => etext_ok ⟨r3.toArray⟩ v r4 n2 n1 w' l3 l4 b2 b1 hf hv (hw.tabs.ext hx)⟩⟩
  have e1 : (T.toList == s.toList) = false := by rw [Lib.toList_data, Lib.toList_data]; exact beq_eq_false_iff_ne.2 hT
  have e2 : (T.toList != s.toList) = true := by rw [Lib.toList_data, Lib.toList_data]; exact bne_iff_ne.2 hT
  clear hT
  clear hx1 hy1 hx2 hy2 hx3 hy3 hx4 hy4 sx1 sy1 sx2 sy2 sx3 sy3 sx4 sy4 q1 q2 q3 q4
  clear h1 h2 h3 h4 hw hf ht
  go_enter Tryd.func63, Tryd.ntmps63
  go_wp2_with (first
    | (go_at_call 71; (with_reducible refine (N1.out _ _ hB).mono ?_); rintro e w1 ⟨rfl, hB1, hg⟩; have hx := Ext.next hx hg (by omega); have hR := (hg.block _ (blk_lt hR) (by simp)).trans hR; have hB := hB1)
    | (go_at_call 71; (with_reducible refine (N2.out _ _ hB).mono ?_); rintro e w1 ⟨rfl, hB1, hg⟩; have hx := Ext.next hx hg (by omega); have hR := (hg.block _ (blk_lt hR) (by simp)).trans hR; have hB := hB1)
    | (go_at_call 71; (with_reducible refine (N3.out _ _ hB).mono ?_); rintro e w1 ⟨rfl, hB1, hg⟩; have hx := Ext.next hx hg (by omega); have hR := (hg.block _ (blk_lt hR) (by simp)).trans hR; have hB := hB1)
    | (go_at_call 71; (with_reducible refine (N4.out _ _ hB).mono ?_); rintro e w1 ⟨rfl, hB1, hg⟩; have hx := Ext.next hx hg (by omega); have hR := (hg.block _ (blk_lt hR) (by simp)).trans hR; have ho3 := ho3.grown hg (Nat.lt_succ_self _); have hB := hB1)
    | (go_at_call 70; (with_reducible refine (cP.out _ hx).mono ?_); rintro e w1 ⟨rfl, hb⟩; have hx := Ext.trans' hx hb; have hR := Ext.blk hb hR; have hB := Ext.blk hb hB)
    | (go_at_call 62; (with_reducible refine (cT.out _ hx).mono ?_); rintro e w1 ⟨rfl, hb⟩; have hx := Ext.trans' hx hb; have hR := Ext.blk hb hR; have hB := Ext.blk hb hB)
    | (go_at_call 72; (with_reducible refine (cD3.out _).mono ?_); rintro e w1 ⟨v3, rfl, ho3, hb⟩; have ho3 := ho3.mono (C := w.heap.size + 1 + 1) (blk_lt hB); have hx := Ext.trans' hx hb; have hR := Ext.blk hb hR; have hB := Ext.blk hb hB; obtain ⟨a3, c3, rfl⟩ := ho3.shape)
    | (go_at_call 72; (with_reducible refine (cD4.out _).mono ?_); rintro e w1 ⟨v4, rfl, ho4, hb⟩; have ho4 := ho4.mono (C := w.heap.size + 1 + 1) (blk_lt hB); have hx := Ext.trans' hx hb; have hR := Ext.blk hb hR; have hB := Ext.blk hb hB; have ho3 := ho3.ext hb; have hcv := (ho3.by (by omega)).conv; obtain ⟨a4, c4, rfl⟩ := ho4.shape; have hv4 := By.ext (Ext.alloc (Below.refl _ _) (.cells #[.string ⟨r3.toArray⟩, .slice a4 r4.length c4, .int .u64 n2, .int .u64 n1] 83)) (ho4.by (by omega)); have hE := newblk w1 (.cells #[.string ⟨r3.toArray⟩, .slice a4 r4.length c4, .int .u64 n2, .int .u64 n1] 83))
    | (go_at_call 65; (with_reducible refine (cX.out _ _ hv4 (Ext.alloc hx _)).mono ?_); rintro e w2 ⟨rfl, hb⟩; have hx := Ext.trans' (Ext.alloc hx _) hb; have hR := Ext.blk hb (Ext.blk (Ext.alloc (Below.refl _ _) _) hR); have hE := Ext.blk hb hE; have ho4 := (ho4.ext (Ext.alloc (Below.refl _ _) _)).ext hb; obtain ⟨m0, m1, m2, m3, f0, f1, f2, f3⟩ := blk4 hR; obtain ⟨u0, u1, u2, u3, _⟩ := blk4 hE; clear hE hv4 hcv ho3))
  refine bodyPost_ret (v := .tuple #[zeroE, .int .i64 6]) ?_ rfl ⟨rfl, Ext.st4 hx (Nat.le_refl _) _ _ _ _⟩
  simp [results, Tryd.results63, go_sem, m0, m1, m2, m3]

/-- What Parse gives back. -/
def PPost (w : World) (o : Option Ent) (e : Ending) (w' : World) : Prop :=
  match o with
  | none => e = .returned (.tuple #[zeroE, .int .i64 6]) ∧ Ext w w'
  | some x => ∃ v', e = .returned (.tuple #[.agg #[.string ⟨x.key.toArray⟩, v', .int .u64 x.dl, .int .u64 x.birth], .int .i64 0]) ∧ OwnB w.heap.size w' v' x.val ∧ Ext w w'
theorem fine_chk (k l : List UInt8) (d b : Nat) : Ent.fine ⟨k, l, d, b⟩ = true ↔ chk k.length l.length b = 0 := by
  unfold Ent.fine chk vk
  simp only [Bool.and_eq_true, decide_eq_true_eq]
  constructor
  · rintro ⟨⟨⟨h1, h2⟩, h3⟩, h4⟩
    rw [if_neg (by simp; omega), if_neg (by omega)]
  · intro h
    split at h
    · omega
    · rename_i h1
      split at h
      · omega
      · simp at h1; omega
theorem eparse_any (s : ByteArray) (w : World) (hs : s.size ≤ 200000) (hw : Env w) :
    Calls Tryd.prog 63 #[.string s] w (PPost w (parseE s.data.toList)) := by
  cases h1 : numO (cutA s.data.toList) with
  | none =>
    have : parseE s.data.toList = none := by unfold parseE readE; rw [h1]; rfl
    rw [this]; exact eparse_no1 s w hs hw h1
  | some n1 =>
    cases h2 : parseT (cutA (cutZ s.data.toList)) with
    | none =>
      have : parseE s.data.toList = none := by unfold parseE readE; rw [h1, h2]; rfl
      rw [this]; exact eparse_no2 s w hs hw n1 h1 h2
    | some n2 =>
      cases h3 : decL (cutA (cutZ (cutZ s.data.toList))) with
      | none =>
        have : parseE s.data.toList = none := by unfold parseE readE; rw [h1, h2, h3]; rfl
        rw [this]; exact eparse_no3 s w hs hw n1 n2 h1 h2 h3
      | some r3 =>
        cases h4 : decL (cutA (cutZ (cutZ (cutZ s.data.toList)))) with
        | none =>
          have : parseE s.data.toList = none := by unfold parseE readE; rw [h1, h2, h3, h4]; rfl
          rw [this]; exact eparse_no4 s w hs hw n1 n2 r3 h1 h2 h3 h4
        | some r4 =>
          have hr : readE s.data.toList = some ⟨r3, r4, n2, n1⟩ := by unfold readE; rw [h1, h2, h3, h4]
          by_cases hf : chk r3.length r4.length n1 = 0
          · by_cases ht : Ent.text ⟨r3, r4, n2, n1⟩ = s.data.toList
            · have : parseE s.data.toList = some ⟨r3, r4, n2, n1⟩ := by unfold parseE; rw [hr]; simp [(fine_chk r3 r4 n2 n1).2 hf, ht]
              rw [this]; exact eparse_A s w hs hw n1 n2 r3 r4 h1 h2 h3 h4 hf ht
            · have : parseE s.data.toList = none := by unfold parseE; rw [hr]; simp [ht]
              rw [this]; exact eparse_C s w hs hw n1 n2 r3 r4 h1 h2 h3 h4 hf ht
          · have : parseE s.data.toList = none := by
              unfold parseE; rw [hr]
              have hn : ¬ Ent.fine ⟨r3, r4, n2, n1⟩ = true := fun h => hf ((fine_chk r3 r4 n2 n1).1 h)
              simp [hn]
            rw [this]; exact eparse_B s w hs hw n1 n2 r3 r4 h1 h2 h3 h4 hf
end Go.Proofs.YtapngkjgagapeaaDoor
