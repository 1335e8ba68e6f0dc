import Derived.Test.YtbnmnkmjokcmfaaDoorSN
/- season.Parse at every string. -/
namespace Go.Proofs.YtbnmnkmjokcmfaaDoor
open Go.RowKit
set_option maxRecDepth 100000 in
set_option maxHeartbeats 2000000 in
theorem sparse_suf (s : ByteArray) (w : World) (hs : s.size ≤ 1000) (hla : La s w) (p : Nat) (hp : lastS s.data.toList = p) (h1 : 1 ≤ p) (hsuf : Lib.hasSuffix s.data.toList [105] = false) :
    Calls Tryd.prog 11 #[.string s] w fun e w' => e = .returned (.tuple #[.agg #[.int .i64 0, .int .i64 0], .int .i64 6]) ∧ Ext w w' := by
  have hx : Ext w (w.alloc (.cells #[.int .i64 0, .int .i64 0] 23)) := Ext.alloc (Below.refl _ _) _
  have hB := newblk w (.cells #[.int .i64 0, .int .i64 0] 23)
  have c1 : Box (∀ w', Ext w w' → _) := ⟨hla⟩
  rw [hp] at c1
  have c2 : Box (∀ w, Calls Tryd.prog 39 #[.string s, .string ⟨#[105]⟩] w fun e w' => e = .returned (.bool false) ∧ w = w') := ⟨fun w => (Tryd.strings_HasSuffix s ⟨#[105]⟩ w (by omega)).mono fun e w' ⟨h1, h3⟩ => ⟨by rw [h1, ← hsuf], h3.symm⟩⟩
  have d1 : decide ((p : Int) < 1) = false := decide_eq_false (by omega)
  clear hla hp hsuf
  go_enter Tryd.func11, Tryd.ntmps11
  go_wp2_with (first
    | (go_at_call 38; (with_reducible refine (c1.out _ hx).mono ?_); rintro e w1 ⟨rfl, hb⟩; have hx := Ext.trans' hx hb; have hB := Ext.blk hb hB; obtain ⟨⟨o0, o1⟩, f0, f1⟩ := gz hB)
    | (go_at_call 39; (with_reducible refine (c2.out _).mono ?_); rintro e w' ⟨rfl, rfl⟩))
  refine bodyPost_ret (v := .tuple #[.agg #[.int .i64 0, .int .i64 0], .int .i64 6]) ?_ rfl ⟨rfl, Below.setCell (Below.setCell hx (p := ⟨w.heap.size, 0, none⟩) (Nat.le_refl _) _) (p := ⟨w.heap.size, 1, none⟩) (Nat.le_refl _) _⟩
  simp [results, Tryd.results11, go_sem, o0, o1]
set_option maxRecDepth 100000 in
set_option maxHeartbeats 4000000 in
theorem sparse_err (s : ByteArray) (w : World) (hw : EnvS w) (hs : s.size ≤ 1000) (hla : La s w) (p : Nat) (hp : lastS s.data.toList = p) (h1 : 1 ≤ p) (h2 : p + 1 ≤ s.size) (hsuf : Lib.hasSuffix s.data.toList [105] = true)
    (hno : ¬ ((∃ re, Lib.atoiAll (s.data.toList.take p) = .ok re) ∧ ∃ im, Lib.atoiAll ((s.data.toList.drop p).take (s.size - 1 - p)) = .ok im)) :
    Calls Tryd.prog 11 #[.string s] w fun e w' => e = .returned (.tuple #[.agg #[.int .i64 0, .int .i64 0], .int .i64 6]) ∧ Ext w w' := by
  have hx : Ext w (w.alloc (.cells #[.int .i64 0, .int .i64 0] 23)) := Ext.alloc (Below.refl _ _) _
  have hB := newblk w (.cells #[.int .i64 0, .int .i64 0] 23)
  have c1 : Box (∀ w', Ext w w' → _) := ⟨hla⟩
  rw [hp] at c1
  have c2 : Box (∀ w, Calls Tryd.prog 39 #[.string s, .string ⟨#[105]⟩] w fun e w' => e = .returned (.bool true) ∧ w = w') := ⟨fun w => (Tryd.strings_HasSuffix s ⟨#[105]⟩ w (by omega)).mono fun e w' ⟨h1, h3⟩ => ⟨by rw [h1, ← hsuf], h3.symm⟩⟩
  have eA : (s.extract 0 p).data.toList = s.data.toList.take p := by simp
  have eB : (s.extract p (s.size - 1)).data.toList = (s.data.toList.drop p).take (s.size - 1 - p) := by simp [List.extract_eq_take_drop]
  have zA : (s.extract 0 p).size ≤ 281474976710656 := by rw [ByteArray.size_extract]; omega
  have zB : (s.extract p (s.size - 1)).size ≤ 281474976710656 := by rw [ByteArray.size_extract]; omega
  have cT : Box (∀ (x y : Int) w', Ext w w' → _) := ⟨fun x y w' hx => stext_any x y w' (hw.tabs.ext hx)⟩
  have key : (∃ re, Lib.atoiAll (s.data.toList.take p) = .ok re) ∧ (∀ im, Lib.atoiAll ((s.data.toList.drop p).take (s.size - 1 - p)) ≠ .ok im) ∨ (∀ re, Lib.atoiAll (s.data.toList.take p) ≠ .ok re) ∧ (∃ im, Lib.atoiAll ((s.data.toList.drop p).take (s.size - 1 - p)) = .ok im) ∨ (∀ re, Lib.atoiAll (s.data.toList.take p) ≠ .ok re) ∧ (∀ im, Lib.atoiAll ((s.data.toList.drop p).take (s.size - 1 - p)) ≠ .ok im) := by
    by_cases g1 : ∃ re, Lib.atoiAll (s.data.toList.take p) = .ok re
    · exact Or.inl ⟨g1, fun im h => hno ⟨g1, im, h⟩⟩
    · by_cases g2 : ∃ im, Lib.atoiAll ((s.data.toList.drop p).take (s.size - 1 - p)) = .ok im
      · exact Or.inr (Or.inl ⟨fun re h => g1 ⟨re, h⟩, g2⟩)
      · exact Or.inr (Or.inr ⟨fun re h => g1 ⟨re, h⟩, fun im h => g2 ⟨im, h⟩⟩)
  have d1 : decide ((p : Int) < 1) = false := decide_eq_false (by omega)
  have q1 : IntKind.i64.wrap ((s.size : Int) - 1) = ((s.size - 1 : Nat) : Int) := by rw [IntKind.wrap_i64]; omega
  have n1 : (0 : Int) ≤ (p : Int) := by omega
  have n2 : (p : Int) ≤ (s.size : Int) := by omega
  have n3 : (p : Int) ≤ ((s.size - 1 : Nat) : Int) := by omega
  have n4 : ((s.size - 1 : Nat) : Int) ≤ (s.size : Int) := by omega
  have HW := Box.mk hw
  have hx0 : Ext w w := Below.refl _ _
  clear hla hp hsuf hno hw
  rcases key with ⟨⟨re, ha⟩, hb⟩ | ⟨ha, ⟨im, hb⟩⟩ | ⟨ha, hb⟩
  · have cA : Box (∀ w', Ext w w' → _) := ⟨fun w' _ => gatoi_ok (s.extract 0 p) re zA (by rw [eA]; exact ha) w'⟩
    have cB : Box (∀ w', Ext w w' → _) := ⟨fun w' h => gatoi_no (s.extract p (s.size - 1)) zB (by rw [eB]; exact hb) w' (HW.out.ext h)⟩
    clear ha hb eA eB zA zB
    go_enter Tryd.func11, Tryd.ntmps11
    go_wp2_with (first
      | (go_at_call 38; (with_reducible refine (c1.out _ hx).mono ?_); rintro e w1 ⟨rfl, hb⟩; have hx := Ext.trans' hx hb; have hB := Ext.blk hb hB)
      | (go_at_call 39; (with_reducible refine (c2.out _).mono ?_); rintro e w' ⟨rfl, rfl⟩)
      | (go_at_call 40; (with_reducible refine (cA.out _ hx).mono ?_); rintro e w1 ⟨rfl, hb⟩; have hx := Ext.trans' hx hb; have hB := Ext.blk hb hB)
      | (go_at_call 40; (with_reducible refine (cB.out _ hx).mono ?_); rintro e w4 ⟨vb, tb, nb, rfl, hb⟩; have hG := newblk w4 (.cells #[.int .i64 re, .int .i64 vb] 23); have hx := Ext.alloc (Ext.trans' hx hb) (.cells #[.int .i64 re, .int .i64 vb] 23); have hB := Ext.blk (Ext.alloc (Below.refl _ _) (.cells #[.int .i64 re, .int .i64 vb] 23)) (Ext.blk hb hB); obtain ⟨⟨y0, y1⟩, _⟩ := gz hG)
      | (go_at_call 9; (with_reducible refine (cT.out _ _ _ hx).mono ?_); rintro e w1 ⟨er, rfl, hb⟩; have hx := Ext.trans' hx hb; have hB := Ext.blk hb hB; obtain ⟨⟨o0, o1⟩, f0, f1⟩ := gz hB))
    refine bodyPost_ret (v := .tuple #[.agg #[.int .i64 0, .int .i64 0], .int .i64 6]) ?_ rfl ⟨rfl, Below.setCell (Below.setCell hx (p := ⟨w.heap.size, 0, none⟩) (Nat.le_refl _) _) (p := ⟨w.heap.size, 1, none⟩) (Nat.le_refl _) _⟩
    simp [results, Tryd.results11, go_sem, o0, o1]
  · have cA : Box (∀ w', Ext w w' → _) := ⟨fun w' h => gatoi_no (s.extract 0 p) zA (by rw [eA]; exact ha) w' (HW.out.ext h)⟩
    have cB : Box (∀ w', Ext w w' → _) := ⟨fun w' _ => gatoi_ok (s.extract p (s.size - 1)) im zB (by rw [eB]; exact hb) w'⟩
    clear ha hb eA eB zA zB
    go_enter Tryd.func11, Tryd.ntmps11
    go_wp2_with (first
      | (go_at_call 38; (with_reducible refine (c1.out _ hx).mono ?_); rintro e w1 ⟨rfl, hb⟩; have hx := Ext.trans' hx hb; have hB := Ext.blk hb hB)
      | (go_at_call 39; (with_reducible refine (c2.out _).mono ?_); rintro e w' ⟨rfl, rfl⟩)
      | (go_at_call 40; (with_reducible refine (cA.out _ hx).mono ?_); rintro e w1 ⟨va, ta, na, rfl, hb⟩; have hx := Ext.trans' hx hb; have hB := Ext.blk hb hB)
      | (go_at_call 40; (with_reducible refine (cB.out _ hx).mono ?_); rintro e w4 ⟨rfl, hb⟩; have hG := newblk w4 (.cells #[.int .i64 va, .int .i64 im] 23); have hx := Ext.alloc (Ext.trans' hx hb) (.cells #[.int .i64 va, .int .i64 im] 23); have hB := Ext.blk (Ext.alloc (Below.refl _ _) (.cells #[.int .i64 va, .int .i64 im] 23)) (Ext.blk hb hB); obtain ⟨⟨y0, y1⟩, _⟩ := gz hG)
      | (go_at_call 9; (with_reducible refine (cT.out _ _ _ hx).mono ?_); rintro e w1 ⟨er, rfl, hb⟩; have hx := Ext.trans' hx hb; have hB := Ext.blk hb hB; obtain ⟨⟨o0, o1⟩, f0, f1⟩ := gz hB))
    refine bodyPost_ret (v := .tuple #[.agg #[.int .i64 0, .int .i64 0], .int .i64 6]) ?_ rfl ⟨rfl, Below.setCell (Below.setCell hx (p := ⟨w.heap.size, 0, none⟩) (Nat.le_refl _) _) (p := ⟨w.heap.size, 1, none⟩) (Nat.le_refl _) _⟩
    simp [results, Tryd.results11, go_sem, o0, o1]
  · have cA : Box (∀ w', Ext w w' → _) := ⟨fun w' h => gatoi_no (s.extract 0 p) zA (by rw [eA]; exact ha) w' (HW.out.ext h)⟩
    have cB : Box (∀ w', Ext w w' → _) := ⟨fun w' h => gatoi_no (s.extract p (s.size - 1)) zB (by rw [eB]; exact hb) w' (HW.out.ext h)⟩
    clear ha hb eA eB zA zB
    go_enter Tryd.func11, Tryd.ntmps11
    go_wp2_with (first
      | (go_at_call 38; (with_reducible refine (c1.out _ hx).mono ?_); rintro e w1 ⟨rfl, hb⟩; have hx := Ext.trans' hx hb; have hB := Ext.blk hb hB)
      | (go_at_call 39; (with_reducible refine (c2.out _).mono ?_); rintro e w' ⟨rfl, rfl⟩)
      | (go_at_call 40; (with_reducible refine (cA.out _ hx).mono ?_); rintro e w1 ⟨va, ta, na, rfl, hb⟩; have hx := Ext.trans' hx hb; have hB := Ext.blk hb hB)
      | (go_at_call 40; (with_reducible refine (cB.out _ hx).mono ?_); rintro e w4 ⟨vb, tb, nb, rfl, hb⟩; have hG := newblk w4 (.cells #[.int .i64 va, .int .i64 vb] 23); have hx := Ext.alloc (Ext.trans' hx hb) (.cells #[.int .i64 va, .int .i64 vb] 23); have hB := Ext.blk (Ext.alloc (Below.refl _ _) (.cells #[.int .i64 va, .int .i64 vb] 23)) (Ext.blk hb hB); obtain ⟨⟨y0, y1⟩, _⟩ := gz hG)
      | (go_at_call 9; (with_reducible refine (cT.out _ _ _ hx).mono ?_); rintro e w1 ⟨er, rfl, hb⟩; have hx := Ext.trans' hx hb; have hB := Ext.blk hb hB; obtain ⟨⟨o0, o1⟩, f0, f1⟩ := gz hB))
    refine bodyPost_ret (v := .tuple #[.agg #[.int .i64 0, .int .i64 0], .int .i64 6]) ?_ rfl ⟨rfl, Below.setCell (Below.setCell hx (p := ⟨w.heap.size, 0, none⟩) (Nat.le_refl _) _) (p := ⟨w.heap.size, 1, none⟩) (Nat.le_refl _) _⟩
    simp [results, Tryd.results11, go_sem, o0, o1]
end Go.Proofs.YtbnmnkmjokcmfaaDoor
