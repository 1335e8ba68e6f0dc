import Derived.Test.YtapngkjgagapeaaDoorE11
/- The contract of Parse of package entry. -/
namespace Go.Proofs.YtapngkjgagapeaaDoor
open Go.RowKit

theorem OwnB.grown {C B : Nat} {w w' : World} {v : Value} {l : List UInt8} (h : OwnB C w v l) (hg : w.grownBy w' (some B)) (hB : B < C) : OwnB C w' v l := by
  refine ⟨h.1, ?_⟩
  rcases h.2 with h2 | ⟨g, cap, cur, hv, hb1, hgh, r⟩
  · exact Or.inl h2
  · exact Or.inr ⟨g, cap, cur, hv, hb1, (hg.block g (blk_lt hgh) (fun e => by cases e; omega)).trans hgh, r⟩
theorem Ext.next {w w1 w2 : World} (h : Ext w w1) {B : Nat} (hg : w1.grownBy w2 (some B)) (hB : w.heap.size ≤ B) : Ext w w2 :=
  Below.grown h hg h.size (fun j hj => by cases hj; exact hB)

theorem pu_any (s : ByteArray) (w : World) (hs : s.size ≤ 1000000) (hw : Env w) :
    Calls Tryd.prog 70 #[.string s, .int .i64 10, .int .i64 64] w fun e w' => (∃ n er, e = .returned (.tuple #[.int .u64 n, er]) ∧ (match numO s.data.toList with | some m => n = (m : Int) ∧ er = .nilIface | none => ∃ N, er = .iface 136 (.pointer (some ⟨N, 0, none⟩)))) ∧ Ext w w' := by
  have h3 : Lib.parseUintB 64 s.data.toList = noNum ∨ Lib.parseUintB 64 s.data.toList = .range ∨ ∃ u, Lib.parseUintB 64 s.data.toList = .ok u := by
    cases Lib.parseUintB 64 s.data.toList
    · exact Or.inr (Or.inr ⟨_, rfl⟩)
    · exact Or.inl rfl
    · exact Or.inr (Or.inl rfl)
  rcases h3 with hp | hp | ⟨u, hp⟩
  · refine (pu_bad s (by omega) hp w hw).mono ?_
    rintro e w' ⟨N, rfl, hb⟩
    refine ⟨⟨_, _, rfl, ?_⟩, hb⟩
    unfold numO; rw [hp]; exact ⟨N, rfl⟩
  · refine (pu_range s (by omega) hp w hw).mono ?_
    rintro e w' ⟨N, rfl, hb⟩
    refine ⟨⟨_, _, rfl, ?_⟩, hb⟩
    unfold numO; rw [hp]; exact ⟨N, rfl⟩
  · refine (pu_ok s u (by omega) hp w).mono ?_
    rintro e w' ⟨rfl, hb⟩
    refine ⟨⟨_, _, rfl, ?_⟩, hb⟩
    unfold numO; rw [hp]; exact ⟨rfl, rfl⟩
theorem pu_some (s : ByteArray) (n : Nat) (w : World) (hs : s.size ≤ 1000000) (hw : Env w) (h : numO s.data.toList = some n) :
    Calls Tryd.prog 70 #[.string s, .int .i64 10, .int .i64 64] w fun e w' => e = .returned (.tuple #[.int .u64 n, .nilIface]) ∧ Ext w w' := by
  refine (pu_any s w hs hw).mono ?_
  rintro e w' ⟨⟨n', er, rfl, hm⟩, hb⟩
  rw [h] at hm
  obtain ⟨rfl, rfl⟩ := hm
  exact ⟨rfl, hb⟩
theorem pu_none (s : ByteArray) (w : World) (hs : s.size ≤ 1000000) (hw : Env w) (h : numO s.data.toList = none) :
    Calls Tryd.prog 70 #[.string s, .int .i64 10, .int .i64 64] w fun e w' => ∃ n N, e = .returned (.tuple #[.int .u64 n, .iface 136 (.pointer (some ⟨N, 0, none⟩))]) ∧ Ext w w' := by
  refine (pu_any s w hs hw).mono ?_
  rintro e w' ⟨⟨n', er, rfl, hm⟩, hb⟩
  rw [h] at hm
  obtain ⟨N, rfl⟩ := hm
  exact ⟨_, _, rfl, hb⟩

/-- The zero entry. -/
abbrev zeroE : Value := .agg #[.string ⟨#[]⟩, .slice none 0 0, .int .u64 0, .int .u64 0]
abbrev zeroC : Array Value := #[.string ⟨#[]⟩, .slice none 0 0, .int .u64 0, .int .u64 0]

-- WALKS
theorem parts_ex (s : ByteArray) (hs : s.size ≤ 200000) : ∃ x y : ByteArray, Box (x.data.toList = cutA s.data.toList) ∧ Box (y.data.toList = cutZ s.data.toList) ∧ Box (x.size ≤ 200000) ∧ Box (y.size ≤ 200000) ∧ Box (∀ B w', w'.heap[B]? = some (.cells #[.string s] 9 (0, 0)) → Calls Tryd.prog 71 #[.pointer (some ⟨B, 0, none⟩)] w' fun e w'' => e = .returned (.string x) ∧ w''.heap[B]? = some (.cells #[.string y] 9 (0, 0)) ∧ w'.grownBy w'' (some B)) :=
  ⟨⟨(cutA s.data.toList).toArray⟩, ⟨(cutZ s.data.toList).toArray⟩, ⟨rfl⟩, ⟨rfl⟩, ⟨Nat.le_trans (cutA_len s.data.toList) (by rw [lst_len]; exact hs)⟩, ⟨Nat.le_trans (cutZ_len s.data.toList) (by rw [lst_len]; exact hs)⟩, ⟨fun B w' h => next_any B s w' (by omega) h⟩⟩
theorem dec_len (l r : List UInt8) (h : decL l = some r) : 2 * r.length ≤ l.length := by
  have e := hexL_decL l r h
  rw [e]
  unfold hexL
  split
  · rename_i h0; rw [h0]; simp
  · rw [hexP_len]; omega
theorem decode_yes (s : ByteArray) (w : World) (r : List UInt8) (hs : s.size ≤ 200000) (h : decL s.data.toList = some r) :
    Calls Tryd.prog 72 #[.string s] w fun e w' => ∃ v, e = .returned (.tuple #[v, .bool true]) ∧ OwnB w.heap.size w' v r ∧ Ext w w' := by
  refine (decode_any s w (by omega)).mono ?_
  rintro e w' ⟨v, rfl, ho, hb⟩
  rw [h] at ho ⊢
  exact ⟨v, rfl, ho, hb⟩
theorem decode_gen (s : ByteArray) (w : World) (hs : s.size ≤ 200000) :
    Calls Tryd.prog 72 #[.string s] w fun e w' => ∃ v, e = .returned (.tuple #[v, .bool (decL s.data.toList).isSome]) ∧ OwnB w.heap.size w' v ((decL s.data.toList).getD []) ∧ Ext w w' := decode_any s w (by omega)

set_option maxRecDepth 100000 in
set_option maxHeartbeats 4000000 in
theorem eparse_no1 (s : ByteArray) (w : World) (hs : s.size ≤ 200000) (hw : Env w) (h1 : numO (cutA s.data.toList) = none) :
    Calls Tryd.prog 63 #[.string s] w fun e w' => e = .returned (.tuple #[zeroE, .int .i64 6]) ∧ Ext w w' := by
  obtain ⟨x1, y1, hx1, hy1, sx1, sy1, N1⟩ := parts_ex s hs
  obtain ⟨x2, y2, hx2, hy2, sx2, sy2, N2⟩ := parts_ex y1 sy1.out
  obtain ⟨x3, y3, hx3, hy3, sx3, sy3, N3⟩ := parts_ex y2 sy2.out
  obtain ⟨x4, y4, hx4, hy4, sx4, sy4, N4⟩ := parts_ex y3 sy3.out
  have q1 : Box (x1.data.toList = cutA s.data.toList) := hx1
  have q2 : Box (x2.data.toList = cutA (cutZ s.data.toList)) := ⟨by rw [hx2.out, hy1.out]⟩
  have q3 : Box (x3.data.toList = cutA (cutZ (cutZ s.data.toList))) := ⟨by rw [hx3.out, hy2.out, hy1.out]⟩
  have q4 : Box (x4.data.toList = cutA (cutZ (cutZ (cutZ s.data.toList)))) := ⟨by rw [hx4.out, hy3.out, hy2.out, hy1.out]⟩
  have hR : ((w.alloc (.cells zeroC 83)).alloc (.cells #[.string s] 9)).heap[w.heap.size]? = some (.cells zeroC 83 (0, 0)) := Ext.blk (Ext.alloc (Below.refl _ _) _) (newblk w _)
  have hB : ((w.alloc (.cells zeroC 83)).alloc (.cells #[.string s] 9)).heap[w.heap.size + 1]? = some (.cells #[.string s] 9 (0, 0)) := by
    have := newblk (w.alloc (.cells zeroC 83)) (.cells #[.string s] 9)
    simpa using this
  have hx : Ext w ((w.alloc (.cells zeroC 83)).alloc (.cells #[.string s] 9)) := Ext.alloc (Ext.alloc (Below.refl _ _) _) _
  have cP : Box (∀ w', Ext w w' → Calls Tryd.prog 70 #[.string x1, .int .i64 10, .int .i64 64] w' fun e w'' => ∃ n N, e = .returned (.tuple #[.int .u64 n, .iface 136 (.pointer (some ⟨N, 0, none⟩))]) ∧ Ext w' w'') := ⟨fun w' h => pu_none x1 w' (by have := sx1.out; omega) (hw.ext h) (by rw [q1.out]; exact h1)⟩
  obtain ⟨pv, pe, cT⟩ : ∃ pv pe, Box (∀ w', Ext w w' → Calls Tryd.prog 62 #[.string x2] w' fun e w'' => e = .returned (.tuple #[.int .u64 pv, .int .i64 pe]) ∧ Ext w' w'') := ⟨_, _, ⟨fun w' h => parse_any x2 w' (by have := sx2.out; omega) (hw.ext h)⟩⟩
  obtain ⟨g3, r3, cD3⟩ : ∃ g r, Box (∀ w', Calls Tryd.prog 72 #[.string x3] w' fun e w'' => ∃ v, e = .returned (.tuple #[v, .bool g]) ∧ OwnB w'.heap.size w'' v r ∧ Ext w' w'') := ⟨_, _, ⟨fun w' => decode_gen x3 w' sx3.out⟩⟩
  obtain ⟨g4, r4, cD4⟩ : ∃ g r, Box (∀ w', Calls Tryd.prog 72 #[.string x4] w' fun e w'' => ∃ v, e = .returned (.tuple #[v, .bool g]) ∧ OwnB w'.heap.size w'' v r ∧ Ext w' w'') := ⟨_, _, ⟨fun w' => decode_gen x4 w' sx4.out⟩⟩
  clear hx1 hy1 hx2 hy2 hx3 hy3 hx4 hy4 sx1 sy1 sx2 sy2 sx3 sy3 sx4 sy4 q1 q2 q3 q4
  clear h1 hw
  go_enter Tryd.func63, Tryd.ntmps63
  go_wp2_with (first
    | (go_at_call 71; (with_reducible refine (N1.out _ _ hB).mono ?_); rintro e w1 ⟨rfl, hB1, hg⟩; have hx := Ext.next hx hg (by omega); have hR := (hg.block _ (blk_lt hR) (by simp)).trans hR; have hB := hB1)
    | (go_at_call 71; (with_reducible refine (N2.out _ _ hB).mono ?_); rintro e w1 ⟨rfl, hB1, hg⟩; have hx := Ext.next hx hg (by omega); have hR := (hg.block _ (blk_lt hR) (by simp)).trans hR; have hB := hB1)
    | (go_at_call 71; (with_reducible refine (N3.out _ _ hB).mono ?_); rintro e w1 ⟨rfl, hB1, hg⟩; have hx := Ext.next hx hg (by omega); have hR := (hg.block _ (blk_lt hR) (by simp)).trans hR; have hB := hB1)
    | (go_at_call 71; (with_reducible refine (N4.out _ _ hB).mono ?_); rintro e w1 ⟨rfl, hB1, hg⟩; have hx := Ext.next hx hg (by omega); have hR := (hg.block _ (blk_lt hR) (by simp)).trans hR; have hB := hB1)
    | (go_at_call 70; (with_reducible refine (cP.out _ hx).mono ?_); rintro e w1 ⟨n, N, rfl, hb⟩; have hx := Ext.trans' hx hb; have hR := Ext.blk hb hR; have hB := Ext.blk hb hB)
    | (go_at_call 62; (with_reducible refine (cT.out _ hx).mono ?_); rintro e w1 ⟨rfl, hb⟩; have hx := Ext.trans' hx hb; have hR := Ext.blk hb hR; have hB := Ext.blk hb hB)
    | (go_at_call 72; (with_reducible refine (cD3.out _).mono ?_); rintro e w1 ⟨v3, rfl, ho3, hb⟩; have hx := Ext.trans' hx hb; have hR := Ext.blk hb hR; have hB := Ext.blk hb hB; obtain ⟨a3, c3, rfl⟩ := ho3.shape)
    | (go_at_call 72; (with_reducible refine (cD4.out _).mono ?_); rintro e w1 ⟨v4, rfl, ho4, hb⟩; have hx := Ext.trans' hx hb; have hR := Ext.blk hb hR; have hB := Ext.blk hb hB; obtain ⟨a4, c4, rfl⟩ := ho4.shape; obtain ⟨m0, m1, m2, m3, f0, f1, f2, f3⟩ := blk4 hR))
  refine bodyPost_ret (v := .tuple #[zeroE, .int .i64 6]) ?_ rfl ⟨rfl, Ext.st4 hx (Nat.le_refl _) _ _ _ _⟩
  simp [results, Tryd.results63, go_sem, m0, m1, m2, m3]

set_option maxRecDepth 100000 in
set_option maxHeartbeats 4000000 in
theorem eparse_no2 (s : ByteArray) (w : World) (hs : s.size ≤ 200000) (hw : Env w) (n1 : Nat) (h1 : numO (cutA s.data.toList) = some n1) (h2 : parseT (cutA (cutZ s.data.toList)) = none) :
    Calls Tryd.prog 63 #[.string s] w fun e w' => e = .returned (.tuple #[zeroE, .int .i64 6]) ∧ Ext w w' := by
  obtain ⟨x1, y1, hx1, hy1, sx1, sy1, N1⟩ := parts_ex s hs
  obtain ⟨x2, y2, hx2, hy2, sx2, sy2, N2⟩ := parts_ex y1 sy1.out
  obtain ⟨x3, y3, hx3, hy3, sx3, sy3, N3⟩ := parts_ex y2 sy2.out
  obtain ⟨x4, y4, hx4, hy4, sx4, sy4, N4⟩ := parts_ex y3 sy3.out
  have q1 : Box (x1.data.toList = cutA s.data.toList) := hx1
  have q2 : Box (x2.data.toList = cutA (cutZ s.data.toList)) := ⟨by rw [hx2.out, hy1.out]⟩
  have q3 : Box (x3.data.toList = cutA (cutZ (cutZ s.data.toList))) := ⟨by rw [hx3.out, hy2.out, hy1.out]⟩
  have q4 : Box (x4.data.toList = cutA (cutZ (cutZ (cutZ s.data.toList)))) := ⟨by rw [hx4.out, hy3.out, hy2.out, hy1.out]⟩
  have hR : ((w.alloc (.cells zeroC 83)).alloc (.cells #[.string s] 9)).heap[w.heap.size]? = some (.cells zeroC 83 (0, 0)) := Ext.blk (Ext.alloc (Below.refl _ _) _) (newblk w _)
  have hB : ((w.alloc (.cells zeroC 83)).alloc (.cells #[.string s] 9)).heap[w.heap.size + 1]? = some (.cells #[.string s] 9 (0, 0)) := by
    have := newblk (w.alloc (.cells zeroC 83)) (.cells #[.string s] 9)
    simpa using this
  have hx : Ext w ((w.alloc (.cells zeroC 83)).alloc (.cells #[.string s] 9)) := Ext.alloc (Ext.alloc (Below.refl _ _) _) _
  have cP : Box (∀ w', Ext w w' → Calls Tryd.prog 70 #[.string x1, .int .i64 10, .int .i64 64] w' fun e w'' => e = .returned (.tuple #[.int .u64 n1, .nilIface]) ∧ Ext w' w'') := ⟨fun w' h => pu_some x1 n1 w' (by have := sx1.out; omega) (hw.ext h) (by rw [q1.out]; exact h1)⟩
  have cT : Box (∀ w', Ext w w' → Calls Tryd.prog 62 #[.string x2] w' fun e w'' => e = .returned (.tuple #[.int .u64 0, .int .i64 6]) ∧ Ext w' w'') := ⟨fun w' h => by
    have := parse_any x2 w' (by have := sx2.out; omega) (hw.ext h)
    rw [q2.out, h2] at this; exact this⟩
  obtain ⟨g3, r3, cD3⟩ : ∃ g r, Box (∀ w', Calls Tryd.prog 72 #[.string x3] w' fun e w'' => ∃ v, e = .returned (.tuple #[v, .bool g]) ∧ OwnB w'.heap.size w'' v r ∧ Ext w' w'') := ⟨_, _, ⟨fun w' => decode_gen x3 w' sx3.out⟩⟩
  obtain ⟨g4, r4, cD4⟩ : ∃ g r, Box (∀ w', Calls Tryd.prog 72 #[.string x4] w' fun e w'' => ∃ v, e = .returned (.tuple #[v, .bool g]) ∧ OwnB w'.heap.size w'' v r ∧ Ext w' w'') := ⟨_, _, ⟨fun w' => decode_gen x4 w' sx4.out⟩⟩
  clear hx1 hy1 hx2 hy2 hx3 hy3 hx4 hy4 sx1 sy1 sx2 sy2 sx3 sy3 sx4 sy4 q1 q2 q3 q4
  clear h1 h2 hw
  go_enter Tryd.func63, Tryd.ntmps63
  go_wp2_with (first
    | (go_at_call 71; (with_reducible refine (N1.out _ _ hB).mono ?_); rintro e w1 ⟨rfl, hB1, hg⟩; have hx := Ext.next hx hg (by omega); have hR := (hg.block _ (blk_lt hR) (by simp)).trans hR; have hB := hB1)
    | (go_at_call 71; (with_reducible refine (N2.out _ _ hB).mono ?_); rintro e w1 ⟨rfl, hB1, hg⟩; have hx := Ext.next hx hg (by omega); have hR := (hg.block _ (blk_lt hR) (by simp)).trans hR; have hB := hB1)
    | (go_at_call 71; (with_reducible refine (N3.out _ _ hB).mono ?_); rintro e w1 ⟨rfl, hB1, hg⟩; have hx := Ext.next hx hg (by omega); have hR := (hg.block _ (blk_lt hR) (by simp)).trans hR; have hB := hB1)
    | (go_at_call 71; (with_reducible refine (N4.out _ _ hB).mono ?_); rintro e w1 ⟨rfl, hB1, hg⟩; have hx := Ext.next hx hg (by omega); have hR := (hg.block _ (blk_lt hR) (by simp)).trans hR; have hB := hB1)
    | (go_at_call 70; (with_reducible refine (cP.out _ hx).mono ?_); rintro e w1 ⟨rfl, hb⟩; have hx := Ext.trans' hx hb; have hR := Ext.blk hb hR; have hB := Ext.blk hb hB)
    | (go_at_call 62; (with_reducible refine (cT.out _ hx).mono ?_); rintro e w1 ⟨rfl, hb⟩; have hx := Ext.trans' hx hb; have hR := Ext.blk hb hR; have hB := Ext.blk hb hB)
    | (go_at_call 72; (with_reducible refine (cD3.out _).mono ?_); rintro e w1 ⟨v3, rfl, ho3, hb⟩; have hx := Ext.trans' hx hb; have hR := Ext.blk hb hR; have hB := Ext.blk hb hB; obtain ⟨a3, c3, rfl⟩ := ho3.shape)
    | (go_at_call 72; (with_reducible refine (cD4.out _).mono ?_); rintro e w1 ⟨v4, rfl, ho4, hb⟩; have hx := Ext.trans' hx hb; have hR := Ext.blk hb hR; have hB := Ext.blk hb hB; obtain ⟨a4, c4, rfl⟩ := ho4.shape; obtain ⟨m0, m1, m2, m3, f0, f1, f2, f3⟩ := blk4 hR))
  refine bodyPost_ret (v := .tuple #[zeroE, .int .i64 6]) ?_ rfl ⟨rfl, Ext.st4 hx (Nat.le_refl _) _ _ _ _⟩
  simp [results, Tryd.results63, go_sem, m0, m1, m2, m3]

set_option maxRecDepth 100000 in
set_option maxHeartbeats 4000000 in
theorem eparse_no3 (s : ByteArray) (w : World) (hs : s.size ≤ 200000) (hw : Env w) (n1 n2 : Nat) (h1 : numO (cutA s.data.toList) = some n1) (h2 : parseT (cutA (cutZ s.data.toList)) = some n2) (h3 : decL (cutA (cutZ (cutZ s.data.toList))) = none) :
    Calls Tryd.prog 63 #[.string s] w fun e w' => e = .returned (.tuple #[zeroE, .int .i64 6]) ∧ Ext w w' := by
  obtain ⟨x1, y1, hx1, hy1, sx1, sy1, N1⟩ := parts_ex s hs
  obtain ⟨x2, y2, hx2, hy2, sx2, sy2, N2⟩ := parts_ex y1 sy1.out
  obtain ⟨x3, y3, hx3, hy3, sx3, sy3, N3⟩ := parts_ex y2 sy2.out
  obtain ⟨x4, y4, hx4, hy4, sx4, sy4, N4⟩ := parts_ex y3 sy3.out
  have q1 : Box (x1.data.toList = cutA s.data.toList) := hx1
  have q2 : Box (x2.data.toList = cutA (cutZ s.data.toList)) := ⟨by rw [hx2.out, hy1.out]⟩
  have q3 : Box (x3.data.toList = cutA (cutZ (cutZ s.data.toList))) := ⟨by rw [hx3.out, hy2.out, hy1.out]⟩
  have q4 : Box (x4.data.toList = cutA (cutZ (cutZ (cutZ s.data.toList)))) := ⟨by rw [hx4.out, hy3.out, hy2.out, hy1.out]⟩
  have hR : ((w.alloc (.cells zeroC 83)).alloc (.cells #[.string s] 9)).heap[w.heap.size]? = some (.cells zeroC 83 (0, 0)) := Ext.blk (Ext.alloc (Below.refl _ _) _) (newblk w _)
  have hB : ((w.alloc (.cells zeroC 83)).alloc (.cells #[.string s] 9)).heap[w.heap.size + 1]? = some (.cells #[.string s] 9 (0, 0)) := by
    have := newblk (w.alloc (.cells zeroC 83)) (.cells #[.string s] 9)
    simpa using this
  have hx : Ext w ((w.alloc (.cells zeroC 83)).alloc (.cells #[.string s] 9)) := Ext.alloc (Ext.alloc (Below.refl _ _) _) _
  have cP : Box (∀ w', Ext w w' → Calls Tryd.prog 70 #[.string x1, .int .i64 10, .int .i64 64] w' fun e w'' => e = .returned (.tuple #[.int .u64 n1, .nilIface]) ∧ Ext w' w'') := ⟨fun w' h => pu_some x1 n1 w' (by have := sx1.out; omega) (hw.ext h) (by rw [q1.out]; exact h1)⟩
  have cT : Box (∀ w', Ext w w' → Calls Tryd.prog 62 #[.string x2] w' fun e w'' => e = .returned (.tuple #[.int .u64 n2, .int .i64 0]) ∧ Ext w' w'') := ⟨fun w' h => by
    have := parse_any x2 w' (by have := sx2.out; omega) (hw.ext h)
    rw [q2.out, h2] at this; exact this⟩
  have cD3 : Box (∀ w', Calls Tryd.prog 72 #[.string x3] w' fun e w'' => ∃ v, e = .returned (.tuple #[v, .bool false]) ∧ OwnB w'.heap.size w'' v [] ∧ Ext w' w'') := ⟨fun w' => by
    have := decode_gen x3 w' sx3.out
    rw [q3.out, h3] at this; exact this⟩
  obtain ⟨g4, r4, cD4⟩ : ∃ g r, Box (∀ w', Calls Tryd.prog 72 #[.string x4] w' fun e w'' => ∃ v, e = .returned (.tuple #[v, .bool g]) ∧ OwnB w'.heap.size w'' v r ∧ Ext w' w'') := ⟨_, _, ⟨fun w' => decode_gen x4 w' sx4.out⟩⟩
  clear hx1 hy1 hx2 hy2 hx3 hy3 hx4 hy4 sx1 sy1 sx2 sy2 sx3 sy3 sx4 sy4 q1 q2 q3 q4
  clear h1 h2 h3 hw
  go_enter Tryd.func63, Tryd.ntmps63
  go_wp2_with (first
    | (go_at_call 71; (with_reducible refine (N1.out _ _ hB).mono ?_); rintro e w1 ⟨rfl, hB1, hg⟩; have hx := Ext.next hx hg (by omega); have hR := (hg.block _ (blk_lt hR) (by simp)).trans hR; have hB := hB1)
    | (go_at_call 71; (with_reducible refine (N2.out _ _ hB).mono ?_); rintro e w1 ⟨rfl, hB1, hg⟩; have hx := Ext.next hx hg (by omega); have hR := (hg.block _ (blk_lt hR) (by simp)).trans hR; have hB := hB1)
    | (go_at_call 71; (with_reducible refine (N3.out _ _ hB).mono ?_); rintro e w1 ⟨rfl, hB1, hg⟩; have hx := Ext.next hx hg (by omega); have hR := (hg.block _ (blk_lt hR) (by simp)).trans hR; have hB := hB1)
    | (go_at_call 71; (with_reducible refine (N4.out _ _ hB).mono ?_); rintro e w1 ⟨rfl, hB1, hg⟩; have hx := Ext.next hx hg (by omega); have hR := (hg.block _ (blk_lt hR) (by simp)).trans hR; have hB := hB1)
    | (go_at_call 70; (with_reducible refine (cP.out _ hx).mono ?_); rintro e w1 ⟨rfl, hb⟩; have hx := Ext.trans' hx hb; have hR := Ext.blk hb hR; have hB := Ext.blk hb hB)
    | (go_at_call 62; (with_reducible refine (cT.out _ hx).mono ?_); rintro e w1 ⟨rfl, hb⟩; have hx := Ext.trans' hx hb; have hR := Ext.blk hb hR; have hB := Ext.blk hb hB)
    | (go_at_call 72; (with_reducible refine (cD3.out _).mono ?_); rintro e w1 ⟨v3, rfl, ho3, hb⟩; have hx := Ext.trans' hx hb; have hR := Ext.blk hb hR; have hB := Ext.blk hb hB; obtain ⟨a3, c3, rfl⟩ := ho3.shape)
    | (go_at_call 72; (with_reducible refine (cD4.out _).mono ?_); rintro e w1 ⟨v4, rfl, ho4, hb⟩; have hx := Ext.trans' hx hb; have hR := Ext.blk hb hR; have hB := Ext.blk hb hB; obtain ⟨a4, c4, rfl⟩ := ho4.shape; obtain ⟨m0, m1, m2, m3, f0, f1, f2, f3⟩ := blk4 hR))
  refine bodyPost_ret (v := .tuple #[zeroE, .int .i64 6]) ?_ rfl ⟨rfl, Ext.st4 hx (Nat.le_refl _) _ _ _ _⟩
  simp [results, Tryd.results63, go_sem, m0, m1, m2, m3]

set_option maxRecDepth 100000 in
set_option maxHeartbeats 4000000 in
theorem eparse_no4 (s : ByteArray) (w : World) (hs : s.size ≤ 200000) (hw : Env w) (n1 n2 : Nat) (r3 : List UInt8) (h1 : numO (cutA s.data.toList) = some n1) (h2 : parseT (cutA (cutZ s.data.toList)) = some n2) (h3 : decL (cutA (cutZ (cutZ s.data.toList))) = some r3) (h4 : decL (cutA (cutZ (cutZ (cutZ s.data.toList)))) = none) :
    Calls Tryd.prog 63 #[.string s] w fun e w' => e = .returned (.tuple #[zeroE, .int .i64 6]) ∧ Ext w w' := by
  obtain ⟨x1, y1, hx1, hy1, sx1, sy1, N1⟩ := parts_ex s hs
  obtain ⟨x2, y2, hx2, hy2, sx2, sy2, N2⟩ := parts_ex y1 sy1.out
  obtain ⟨x3, y3, hx3, hy3, sx3, sy3, N3⟩ := parts_ex y2 sy2.out
  obtain ⟨x4, y4, hx4, hy4, sx4, sy4, N4⟩ := parts_ex y3 sy3.out
  have q1 : Box (x1.data.toList = cutA s.data.toList) := hx1
  have q2 : Box (x2.data.toList = cutA (cutZ s.data.toList)) := ⟨by rw [hx2.out, hy1.out]⟩
  have q3 : Box (x3.data.toList = cutA (cutZ (cutZ s.data.toList))) := ⟨by rw [hx3.out, hy2.out, hy1.out]⟩
  have q4 : Box (x4.data.toList = cutA (cutZ (cutZ (cutZ s.data.toList)))) := ⟨by rw [hx4.out, hy3.out, hy2.out, hy1.out]⟩
  have hR : ((w.alloc (.cells zeroC 83)).alloc (.cells #[.string s] 9)).heap[w.heap.size]? = some (.cells zeroC 83 (0, 0)) := Ext.blk (Ext.alloc (Below.refl _ _) _) (newblk w _)
  have hB : ((w.alloc (.cells zeroC 83)).alloc (.cells #[.string s] 9)).heap[w.heap.size + 1]? = some (.cells #[.string s] 9 (0, 0)) := by
    have := newblk (w.alloc (.cells zeroC 83)) (.cells #[.string s] 9)
    simpa using this
  have hx : Ext w ((w.alloc (.cells zeroC 83)).alloc (.cells #[.string s] 9)) := Ext.alloc (Ext.alloc (Below.refl _ _) _) _
  have cP : Box (∀ w', Ext w w' → Calls Tryd.prog 70 #[.string x1, .int .i64 10, .int .i64 64] w' fun e w'' => e = .returned (.tuple #[.int .u64 n1, .nilIface]) ∧ Ext w' w'') := ⟨fun w' h => pu_some x1 n1 w' (by have := sx1.out; omega) (hw.ext h) (by rw [q1.out]; exact h1)⟩
  have cT : Box (∀ w', Ext w w' → Calls Tryd.prog 62 #[.string x2] w' fun e w'' => e = .returned (.tuple #[.int .u64 n2, .int .i64 0]) ∧ Ext w' w'') := ⟨fun w' h => by
    have := parse_any x2 w' (by have := sx2.out; omega) (hw.ext h)
    rw [q2.out, h2] at this; exact this⟩
  have cD3 : Box (∀ w', Calls Tryd.prog 72 #[.string x3] w' fun e w'' => ∃ v, e = .returned (.tuple #[v, .bool true]) ∧ OwnB w'.heap.size w'' v r3 ∧ Ext w' w'') := ⟨fun w' => by
    have := decode_gen x3 w' sx3.out
    rw [q3.out, h3] at this; exact this⟩
  have cD4 : Box (∀ w', Calls Tryd.prog 72 #[.string x4] w' fun e w'' => ∃ v, e = .returned (.tuple #[v, .bool false]) ∧ OwnB w'.heap.size w'' v [] ∧ Ext w' w'') := ⟨fun w' => by
    have := decode_gen x4 w' sx4.out
    rw [q4.out, h4] at this; exact this⟩
  clear hx1 hy1 hx2 hy2 hx3 hy3 hx4 hy4 sx1 sy1 sx2 sy2 sx3 sy3 sx4 sy4 q1 q2 q3 q4
  clear h1 h2 h3 h4 hw
  go_enter Tryd.func63, Tryd.ntmps63
  go_wp2_with (first
    | (go_at_call 71; (with_reducible refine (N1.out _ _ hB).mono ?_); rintro e w1 ⟨rfl, hB1, hg⟩; have hx := Ext.next hx hg (by omega); have hR := (hg.block _ (blk_lt hR) (by simp)).trans hR; have hB := hB1)
    | (go_at_call 71; (with_reducible refine (N2.out _ _ hB).mono ?_); rintro e w1 ⟨rfl, hB1, hg⟩; have hx := Ext.next hx hg (by omega); have hR := (hg.block _ (blk_lt hR) (by simp)).trans hR; have hB := hB1)
    | (go_at_call 71; (with_reducible refine (N3.out _ _ hB).mono ?_); rintro e w1 ⟨rfl, hB1, hg⟩; have hx := Ext.next hx hg (by omega); have hR := (hg.block _ (blk_lt hR) (by simp)).trans hR; have hB := hB1)
    | (go_at_call 71; (with_reducible refine (N4.out _ _ hB).mono ?_); rintro e w1 ⟨rfl, hB1, hg⟩; have hx := Ext.next hx hg (by omega); have hR := (hg.block _ (blk_lt hR) (by simp)).trans hR; have hB := hB1)
    | (go_at_call 70; (with_reducible refine (cP.out _ hx).mono ?_); rintro e w1 ⟨rfl, hb⟩; have hx := Ext.trans' hx hb; have hR := Ext.blk hb hR; have hB := Ext.blk hb hB)
    | (go_at_call 62; (with_reducible refine (cT.out _ hx).mono ?_); rintro e w1 ⟨rfl, hb⟩; have hx := Ext.trans' hx hb; have hR := Ext.blk hb hR; have hB := Ext.blk hb hB)
    | (go_at_call 72; (with_reducible refine (cD3.out _).mono ?_); rintro e w1 ⟨v3, rfl, ho3, hb⟩; have hx := Ext.trans' hx hb; have hR := Ext.blk hb hR; have hB := Ext.blk hb hB; obtain ⟨a3, c3, rfl⟩ := ho3.shape)
    | (go_at_call 72; (with_reducible refine (cD4.out _).mono ?_); rintro e w1 ⟨v4, rfl, ho4, hb⟩; have hx := Ext.trans' hx hb; have hR := Ext.blk hb hR; have hB := Ext.blk hb hB; obtain ⟨a4, c4, rfl⟩ := ho4.shape; obtain ⟨m0, m1, m2, m3, f0, f1, f2, f3⟩ := blk4 hR))
  refine bodyPost_ret (v := .tuple #[zeroE, .int .i64 6]) ?_ rfl ⟨rfl, Ext.st4 hx (Nat.le_refl _) _ _ _ _⟩
  simp [results, Tryd.results63, go_sem, m0, m1, m2, m3]

end Go.Proofs.YtapngkjgagapeaaDoor
