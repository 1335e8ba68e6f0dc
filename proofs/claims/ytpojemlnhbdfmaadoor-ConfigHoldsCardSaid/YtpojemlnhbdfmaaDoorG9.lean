import Derived.Test.YtpojemlnhbdfmaaDoorG8
/- The examples of the chapter on configurations: 'known' returns true. -/
namespace Go.Proofs.YtpojemlnhbdfmaaDoor
open Go.RowKit

theorem k_text : txt5 1024 1048576 80 0 false = ⟨#[99, 111, 117, 110, 116, 61, 49, 48, 50, 52, 32, 98, 121, 116, 101, 115, 61, 49, 48, 52, 56, 53, 55, 54, 32, 112, 114, 111, 116, 101, 99, 116, 101, 100, 61, 56, 48, 32, 115, 101, 101, 100, 61, 48, 32, 115, 97, 109, 101, 61, 110, 111]⟩ := by
  unfold txt5
  rw [if_pos (by decide)]
  simp [textC, itoaL, Lib.itoa, Lib.decDigits, wCount, wBytes, wProt, wSeed, wSame, wNo]
theorem k_parse0 : parseC [99, 111, 117, 110, 116, 61, 49, 32, 98, 121, 116, 101, 115, 61, 49, 32, 112, 114, 111, 116, 101, 99, 116, 101, 100, 61, 48, 32, 115, 101, 101, 100, 61, 49, 56, 52, 52, 54, 55, 52, 52, 48, 55, 51, 55, 48, 57, 53, 53, 49, 54, 49, 53, 32, 115, 97, 109, 101, 61, 121, 101, 115] = some ⟨1, 1, 0, 18446744073709551615, true⟩ := by
  have h := parse_text ⟨1, 1, 0, 18446744073709551615, true⟩ (by decide) (by decide)
  rw [← h]
  congr 1
  simp [textC, itoaL, Lib.itoa, Lib.decDigits, wCount, wBytes, wProt, wSeed, wSame, wYes]
theorem k_text1 : textC ⟨1, 1, 0, 0, false⟩ = [99, 111, 117, 110, 116, 61, 49, 32, 98, 121, 116, 101, 115, 61, 49, 32, 112, 114, 111, 116, 101, 99, 116, 101, 100, 61, 48, 32, 115, 101, 101, 100, 61, 48, 32, 115, 97, 109, 101, 61, 110, 111] := by simp [textC, itoaL, Lib.itoa, Lib.decDigits, wCount, wBytes, wProt, wSeed, wSame, wNo]
theorem k_text2 : textC ⟨1, 1, 0, 0, true⟩ = [99, 111, 117, 110, 116, 61, 49, 32, 98, 121, 116, 101, 115, 61, 49, 32, 112, 114, 111, 116, 101, 99, 116, 101, 100, 61, 48, 32, 115, 101, 101, 100, 61, 48, 32, 115, 97, 109, 101, 61, 121, 101, 115] := by simp [textC, itoaL, Lib.itoa, Lib.decDigits, wCount, wBytes, wProt, wSeed, wSame, wYes]
theorem k_none (l : List UInt8) (hn : numsL l = [1, 1, 0, 0]) (h1 : textC ⟨1, 1, 0, 0, false⟩ ≠ l) (h2 : textC ⟨1, 1, 0, 0, true⟩ ≠ l) : parseC l = none := by
  rw [← refC_eq]
  unfold refC
  rw [hn]
  simp only
  rw [if_pos (by decide), if_neg (fun h => h1 h.2), if_neg (fun h => h2 h.2)]
theorem k_parse1 : parseC [99, 111, 117, 110, 116, 61, 49, 32, 98, 121, 116, 101, 115, 61, 49, 32, 112, 114, 111, 116, 101, 99, 116, 101, 100, 61, 48, 32, 115, 101, 101, 100, 61, 48, 32, 115, 97, 109, 101, 61, 110, 111, 32] = none := k_none _ (by decide) (by rw [k_text1]; decide) (by rw [k_text2]; decide)
theorem k_parse2 : parseC [99, 111, 117, 110, 116, 61, 48, 49, 32, 98, 121, 116, 101, 115, 61, 49, 32, 112, 114, 111, 116, 101, 99, 116, 101, 100, 61, 48, 32, 115, 101, 101, 100, 61, 48, 32, 115, 97, 109, 101, 61, 110, 111] = none := k_none _ (by decide) (by rw [k_text1]; decide) (by rw [k_text2]; decide)
theorem k_parse3 : parseC [99, 111, 117, 110, 116, 61, 49, 32, 98, 121, 116, 101, 115, 61, 49, 32, 112, 114, 111, 116, 101, 99, 116, 101, 100, 61, 49, 48, 48, 32, 115, 101, 101, 100, 61, 48, 32, 115, 97, 109, 101, 61, 110, 111] = none := by
  rw [← refC_eq]
  unfold refC
  rw [show numsL _ = [1, 1, 100, 0] from by decide]
  simp only
  rw [if_neg (by decide)]

set_option maxRecDepth 1000000 in
set_option maxHeartbeats 8000000 in
theorem known_any (w : World) (he : EnvG w) : Calls Tryd.prog 13 #[] w fun e w' => e = .returned (.bool true) ∧ Ext w w' := by
  have kw : Box (∀ w1, Ext w w1 → Calls Tryd.prog 12 #[.agg #[.int .i64 1024, .int .i64 1048576, .int .i64 80, .int .u64 0, .bool false], .string ⟨#[99, 111, 117, 110, 116, 61, 49, 48, 50, 52, 32, 98, 121, 116, 101, 115, 61, 49, 48, 52, 56, 53, 55, 54, 32, 112, 114, 111, 116, 101, 99, 116, 101, 100, 61, 56, 48, 32, 115, 101, 101, 100, 61, 48, 32, 115, 97, 109, 101, 61, 110, 111]⟩, .int .i64 0] w1 fun e w' => e = .returned (.bool true) ∧ Ext w1 w') := ⟨fun w1 h => writes_yes 1024 1048576 80 0 false _ 0 w1 (by unfold InB; omega) (he.ext h) k_text.symm (by decide)⟩
  have kp0 : Box (∀ w1, Calls Tryd.prog 11 #[.agg #[.int .i64 1024, .int .i64 1048576, .int .i64 80, .int .u64 0, .bool false], .int .i64 838860, .int .i64 0] w1 fun e w' => e = .returned (.bool true) ∧ Ext w1 w') := ⟨fun w1 => parts_yes 1024 1048576 80 0 false _ _ w1 (by decide) (by decide)⟩
  have kc0 : Box (∀ w1, Calls Tryd.prog 9 #[.agg #[.int .i64 0, .int .i64 0, .int .i64 0, .int .u64 0, .bool false]] w1 fun e w' => e = .returned (.int .i64 240) ∧ Ext w1 w') := ⟨fun w1 => (gcheck_any 0 0 0 0 false w1).mono (fun e w2 ⟨h1, h2⟩ => ⟨h1, h2 ▸ Ext.alloc (Below.refl _ _) _⟩)⟩
  have kc1 : Box (∀ w1, Calls Tryd.prog 9 #[.agg #[.int .i64 1, .int .i64 0, .int .i64 100, .int .u64 0, .bool false]] w1 fun e w' => e = .returned (.int .i64 241) ∧ Ext w1 w') := ⟨fun w1 => (gcheck_any 1 0 100 0 false w1).mono (fun e w2 ⟨h1, h2⟩ => ⟨h1, h2 ▸ Ext.alloc (Below.refl _ _) _⟩)⟩
  have kc2 : Box (∀ w1, Calls Tryd.prog 9 #[.agg #[.int .i64 1, .int .i64 1, .int .i64 100, .int .u64 0, .bool false]] w1 fun e w' => e = .returned (.int .i64 242) ∧ Ext w1 w') := ⟨fun w1 => (gcheck_any 1 1 100 0 false w1).mono (fun e w2 ⟨h1, h2⟩ => ⟨h1, h2 ▸ Ext.alloc (Below.refl _ _) _⟩)⟩
  have kp1 : Box (∀ w1, Calls Tryd.prog 11 #[.agg #[.int .i64 1, .int .i64 1, .int .i64 0, .int .u64 18446744073709551615, .bool true], .int .i64 (-1), .int .i64 0] w1 fun e w' => e = .returned (.bool true) ∧ Ext w1 w') := ⟨fun w1 => parts_yes 1 1 0 18446744073709551615 true _ _ w1 (by decide) (by decide)⟩
  have ks0 : Box (∀ w1, Ext w w1 → Calls Tryd.prog 17 #[.string ⟨#[99, 111, 117, 110, 116, 61, 49, 32, 98, 121, 116, 101, 115, 61, 49, 32, 112, 114, 111, 116, 101, 99, 116, 101, 100, 61, 48, 32, 115, 101, 101, 100, 61, 49, 56, 52, 52, 54, 55, 52, 52, 48, 55, 51, 55, 48, 57, 53, 53, 49, 54, 49, 53, 32, 115, 97, 109, 101, 61, 121, 101, 115]⟩, .agg #[.int .i64 1, .int .i64 1, .int .i64 0, .int .u64 18446744073709551615, .bool true], .int .i64 0] w1 fun e w' => e = .returned (.bool true) ∧ Ext w1 w') := ⟨fun w1 h => parses_yes _ _ 0 w1 (by decide) (he.ext h) (by rw [show (_ : ByteArray).data.toList = [99, 111, 117, 110, 116, 61, 49, 32, 98, 121, 116, 101, 115, 61, 49, 32, 112, 114, 111, 116, 101, 99, 116, 101, 100, 61, 48, 32, 115, 101, 101, 100, 61, 49, 56, 52, 52, 54, 55, 52, 52, 48, 55, 51, 55, 48, 57, 53, 53, 49, 54, 49, 53, 32, 115, 97, 109, 101, 61, 121, 101, 115] from rfl, k_parse0]; rfl) (by rw [show (_ : ByteArray).data.toList = [99, 111, 117, 110, 116, 61, 49, 32, 98, 121, 116, 101, 115, 61, 49, 32, 112, 114, 111, 116, 101, 99, 116, 101, 100, 61, 48, 32, 115, 101, 101, 100, 61, 49, 56, 52, 52, 54, 55, 52, 52, 48, 55, 51, 55, 48, 57, 53, 53, 49, 54, 49, 53, 32, 115, 97, 109, 101, 61, 121, 101, 115] from rfl, k_parse0]; rfl)⟩
  have ks1 : Box (∀ w1, Ext w w1 → Calls Tryd.prog 17 #[.string ⟨#[99, 111, 117, 110, 116, 61, 49, 32, 98, 121, 116, 101, 115, 61, 49, 32, 112, 114, 111, 116, 101, 99, 116, 101, 100, 61, 48, 32, 115, 101, 101, 100, 61, 48, 32, 115, 97, 109, 101, 61, 110, 111, 32]⟩, .agg #[.int .i64 0, .int .i64 0, .int .i64 0, .int .u64 0, .bool false], .int .i64 6] w1 fun e w' => e = .returned (.bool true) ∧ Ext w1 w') := ⟨fun w1 h => parses_yes _ _ 6 w1 (by decide) (he.ext h) (by rw [show (_ : ByteArray).data.toList = [99, 111, 117, 110, 116, 61, 49, 32, 98, 121, 116, 101, 115, 61, 49, 32, 112, 114, 111, 116, 101, 99, 116, 101, 100, 61, 48, 32, 115, 101, 101, 100, 61, 48, 32, 115, 97, 109, 101, 61, 110, 111, 32] from rfl, k_parse1]; rfl) (by rw [show (_ : ByteArray).data.toList = [99, 111, 117, 110, 116, 61, 49, 32, 98, 121, 116, 101, 115, 61, 49, 32, 112, 114, 111, 116, 101, 99, 116, 101, 100, 61, 48, 32, 115, 101, 101, 100, 61, 48, 32, 115, 97, 109, 101, 61, 110, 111, 32] from rfl, k_parse1]; rfl)⟩
  have ks2 : Box (∀ w1, Ext w w1 → Calls Tryd.prog 17 #[.string ⟨#[99, 111, 117, 110, 116, 61, 48, 49, 32, 98, 121, 116, 101, 115, 61, 49, 32, 112, 114, 111, 116, 101, 99, 116, 101, 100, 61, 48, 32, 115, 101, 101, 100, 61, 48, 32, 115, 97, 109, 101, 61, 110, 111]⟩, .agg #[.int .i64 0, .int .i64 0, .int .i64 0, .int .u64 0, .bool false], .int .i64 6] w1 fun e w' => e = .returned (.bool true) ∧ Ext w1 w') := ⟨fun w1 h => parses_yes _ _ 6 w1 (by decide) (he.ext h) (by rw [show (_ : ByteArray).data.toList = [99, 111, 117, 110, 116, 61, 48, 49, 32, 98, 121, 116, 101, 115, 61, 49, 32, 112, 114, 111, 116, 101, 99, 116, 101, 100, 61, 48, 32, 115, 101, 101, 100, 61, 48, 32, 115, 97, 109, 101, 61, 110, 111] from rfl, k_parse2]; rfl) (by rw [show (_ : ByteArray).data.toList = [99, 111, 117, 110, 116, 61, 48, 49, 32, 98, 121, 116, 101, 115, 61, 49, 32, 112, 114, 111, 116, 101, 99, 116, 101, 100, 61, 48, 32, 115, 101, 101, 100, 61, 48, 32, 115, 97, 109, 101, 61, 110, 111] from rfl, k_parse2]; rfl)⟩
  have ks3 : Box (∀ w1, Ext w w1 → Calls Tryd.prog 17 #[.string ⟨#[99, 111, 117, 110, 116, 61, 49, 32, 98, 121, 116, 101, 115, 61, 49, 32, 112, 114, 111, 116, 101, 99, 116, 101, 100, 61, 49, 48, 48, 32, 115, 101, 101, 100, 61, 48, 32, 115, 97, 109, 101, 61, 110, 111]⟩, .agg #[.int .i64 0, .int .i64 0, .int .i64 0, .int .u64 0, .bool false], .int .i64 6] w1 fun e w' => e = .returned (.bool true) ∧ Ext w1 w') := ⟨fun w1 h => parses_yes _ _ 6 w1 (by decide) (he.ext h) (by rw [show (_ : ByteArray).data.toList = [99, 111, 117, 110, 116, 61, 49, 32, 98, 121, 116, 101, 115, 61, 49, 32, 112, 114, 111, 116, 101, 99, 116, 101, 100, 61, 49, 48, 48, 32, 115, 101, 101, 100, 61, 48, 32, 115, 97, 109, 101, 61, 110, 111] from rfl, k_parse3]; rfl) (by rw [show (_ : ByteArray).data.toList = [99, 111, 117, 110, 116, 61, 49, 32, 98, 121, 116, 101, 115, 61, 49, 32, 112, 114, 111, 116, 101, 99, 116, 101, 100, 61, 49, 48, 48, 32, 115, 101, 101, 100, 61, 48, 32, 115, 97, 109, 101, 61, 110, 111] from rfl, k_parse3]; rfl)⟩
  have kr0 : Box (∀ w1, Calls Tryd.prog 19 #[.agg #[.int .i64 1024, .int .i64 1048576, .int .i64 80, .int .u64 0, .bool false], .int .i64 5, .int .i64 7, .agg #[.int .i64 5, .int .i64 7, .int .i64 80, .int .u64 0, .bool false], .int .i64 0] w1 fun e w' => e = .returned (.bool true) ∧ Ext w1 w') := ⟨fun w1 => resizes_yes 1024 1048576 80 0 false 5 7 _ _ w1 rfl (by decide)⟩
  have kr1 : Box (∀ w1, Calls Tryd.prog 19 #[.agg #[.int .i64 1024, .int .i64 1048576, .int .i64 80, .int .u64 0, .bool false], .int .i64 5, .int .i64 0, .agg #[.int .i64 0, .int .i64 0, .int .i64 0, .int .u64 0, .bool false], .int .i64 241] w1 fun e w' => e = .returned (.bool true) ∧ Ext w1 w') := ⟨fun w1 => resizes_yes 1024 1048576 80 0 false 5 0 _ _ w1 rfl (by decide)⟩
  have kp2 : Box (∀ w1, Calls Tryd.prog 11 #[.agg #[.int .i64 1, .int .i64 199, .int .i64 50, .int .u64 0, .bool false], .int .i64 99, .int .i64 0] w1 fun e w' => e = .returned (.bool true) ∧ Ext w1 w') := ⟨fun w1 => parts_yes 1 199 50 0 false _ _ w1 (by decide) (by decide)⟩
  have kd : Box (∀ w1, Calls Tryd.prog 25 #[] w1 fun e w' => e = .returned (.agg #[.int .i64 1024, .int .i64 1048576, .int .i64 80, .int .u64 0, .bool false]) ∧ Ext w1 w') := ⟨fun w1 => (rdefault_any w1).mono (fun e w2 ⟨h1, h2⟩ => ⟨h1, h2 ▸ Ext.alloc (Below.refl _ _) _⟩)⟩
  have hg := cfg_struct.2.2
  have hq := eqC 1024 1048576 80 0 false
  have hx0 : Ext w ((w.alloc (.cells #[.int .i64 1024, .int .i64 1048576, .int .i64 80, .int .u64 0, .bool false] 24)).alloc (.cells #[.int .i64 1024, .int .i64 1048576, .int .i64 80, .int .u64 0, .bool false] 24)) := Ext.alloc (Ext.alloc (Below.refl _ _) _) _
  have hC0 := newblk (w.alloc (.cells #[.int .i64 1024, .int .i64 1048576, .int .i64 80, .int .u64 0, .bool false] 24)) (.cells #[.int .i64 1024, .int .i64 1048576, .int .i64 80, .int .u64 0, .bool false] 24)
  rw [show (w.alloc (.cells #[.int .i64 1024, .int .i64 1048576, .int .i64 80, .int .u64 0, .bool false] 24)).heap.size = w.heap.size + 1 by simp] at hC0
  clear he
  go_enter Tryd.func13, Tryd.ntmps13
  go_wp2_with (first
    | (go_at_call 24; (with_reducible refine (gdefault_any _).mono ?_); rintro e w1 ⟨rfl, rfl⟩))
  generalize ((w.alloc (.cells #[.int .i64 1024, .int .i64 1048576, .int .i64 80, .int .u64 0, .bool false] 24)).alloc (.cells #[.int .i64 1024, .int .i64 1048576, .int .i64 80, .int .u64 0, .bool false] 24)) = W2 at *
  have hx := hx0
  have hC := hC0
  clear hx0 hC0
  obtain ⟨m0, m1, m2, m3, m4⟩ := blk5 hC
  have hlt := blk_lt hC
  go_region_held3 (fun w' => w'.cell? ⟨w.heap.size + 1, 0, none⟩ = some (.int .i64 1024) ∧ w'.cell? ⟨w.heap.size + 1, 1, none⟩ = some (.int .i64 1048576) ∧ w'.cell? ⟨w.heap.size + 1, 2, none⟩ = some (.int .i64 80) ∧ w'.cell? ⟨w.heap.size + 1, 3, none⟩ = some (.int .u64 0) ∧ w'.cell? ⟨w.heap.size + 1, 4, none⟩ = some (.bool false))
    (first
      | go_keep
      | (exact ⟨m0, m1, m2, m3, m4⟩))
    (first
      | (go_at_call 25; (with_reducible refine (kd.out _).mono ?_); rintro e w1 ⟨rfl, hb⟩; have hx := Ext.trans' (Ext.drewN hx 1) hb; have hC := Ext.blk hb hC; obtain ⟨m0, m1, m2, m3, m4⟩ := blk5 hC; have hlt := blk_lt hC)
      | (go_at_call 12; (with_reducible refine (kw.out _ hx).mono ?_); rintro e w1 ⟨rfl, hb⟩; have hx := Ext.trans' hx hb; have hC := Ext.blk hb hC; obtain ⟨m0, m1, m2, m3, m4⟩ := blk5 hC; have hlt := blk_lt hC)
      | (go_at_call 11; (with_reducible refine (kp0.out _).mono ?_); rintro e w1 ⟨rfl, hb⟩; have hx := Ext.trans' hx hb; have hC := Ext.blk hb hC; obtain ⟨m0, m1, m2, m3, m4⟩ := blk5 hC; have hlt := blk_lt hC))
  all_goals
    go_wp2_with (first
      | (go_at_call 9; (with_reducible refine (kc0.out _).mono ?_); rintro e w1 ⟨rfl, hb⟩; have hx := Ext.trans' hx hb; have hC := Ext.blk hb hC; obtain ⟨m0, m1, m2, m3, m4⟩ := blk5 hC; have hlt := blk_lt hC)
      | (go_at_call 9; (with_reducible refine (kc1.out _).mono ?_); rintro e w1 ⟨rfl, hb⟩; have hx := Ext.trans' hx hb; have hC := Ext.blk hb hC; obtain ⟨m0, m1, m2, m3, m4⟩ := blk5 hC; have hlt := blk_lt hC)
      | (go_at_call 9; (with_reducible refine (kc2.out _).mono ?_); rintro e w1 ⟨rfl, hb⟩; have hx := Ext.trans' hx hb; have hC := Ext.blk hb hC; obtain ⟨m0, m1, m2, m3, m4⟩ := blk5 hC; have hlt := blk_lt hC))
    have hO := newblk w1 (.cells #[.int .i64 1, .int .i64 1, .int .i64 0, .int .u64 18446744073709551615, .bool true] 24)
    have hb3 : Ext w1 (w1.alloc (.cells #[.int .i64 1, .int .i64 1, .int .i64 0, .int .u64 18446744073709551615, .bool true] 24)) := Ext.alloc (Below.refl _ _) _
    have hx := Ext.trans' hx hb3
    have hC := Ext.blk hb3 hC
    generalize w1.alloc (.cells #[.int .i64 1, .int .i64 1, .int .i64 0, .int .u64 18446744073709551615, .bool true] 24) = W3 at *
    refine (ks0.out _ hx).mono ?_
    rintro e w2 ⟨rfl, hb⟩
    have hx := Ext.trans' hx hb
    have hC := Ext.blk hb hC
    have hO := Ext.blk hb hO
    obtain ⟨m0, m1, m2, m3, m4⟩ := blk5 hC
    have hlt := blk_lt hC
    obtain ⟨o0, o1, o2, o3, o4⟩ := blk5 hO
    have hlo := blk_lt hO
    clear hq hg
    go_wp2_with (first
      | (go_at_call 17; (with_reducible refine (ks0.out _ hx).mono ?_); rintro e w3 ⟨rfl, hb⟩; have hx := Ext.trans' hx hb; have hC := Ext.blk hb hC; have hO := Ext.blk hb hO; obtain ⟨m0, m1, m2, m3, m4⟩ := blk5 hC; have hlt := blk_lt hC; obtain ⟨o0, o1, o2, o3, o4⟩ := blk5 hO; have hlo := blk_lt hO)
      | (go_at_call 17; (with_reducible refine (ks1.out _ hx).mono ?_); rintro e w3 ⟨rfl, hb⟩; have hx := Ext.trans' hx hb; have hC := Ext.blk hb hC; have hO := Ext.blk hb hO; obtain ⟨m0, m1, m2, m3, m4⟩ := blk5 hC; have hlt := blk_lt hC; obtain ⟨o0, o1, o2, o3, o4⟩ := blk5 hO; have hlo := blk_lt hO)
      | (go_at_call 17; (with_reducible refine (ks2.out _ hx).mono ?_); rintro e w3 ⟨rfl, hb⟩; have hx := Ext.trans' hx hb; have hC := Ext.blk hb hC; have hO := Ext.blk hb hO; obtain ⟨m0, m1, m2, m3, m4⟩ := blk5 hC; have hlt := blk_lt hC; obtain ⟨o0, o1, o2, o3, o4⟩ := blk5 hO; have hlo := blk_lt hO)
      | (go_at_call 17; (with_reducible refine (ks3.out _ hx).mono ?_); rintro e w3 ⟨rfl, hb⟩; have hx := Ext.trans' hx hb; have hC := Ext.blk hb hC; have hO := Ext.blk hb hO; obtain ⟨m0, m1, m2, m3, m4⟩ := blk5 hC; have hlt := blk_lt hC; obtain ⟨o0, o1, o2, o3, o4⟩ := blk5 hO; have hlo := blk_lt hO)
      | (go_at_call 11; (with_reducible refine (kp1.out _).mono ?_); rintro e w3 ⟨rfl, hb⟩; have hx := Ext.trans' hx hb; have hC := Ext.blk hb hC; have hO := Ext.blk hb hO; obtain ⟨m0, m1, m2, m3, m4⟩ := blk5 hC; have hlt := blk_lt hC; obtain ⟨o0, o1, o2, o3, o4⟩ := blk5 hO; have hlo := blk_lt hO)
      | (go_at_call 11; (with_reducible refine (kp2.out _).mono ?_); rintro e w3 ⟨rfl, hb⟩; have hx := Ext.trans' hx hb; have hC := Ext.blk hb hC; have hO := Ext.blk hb hO; obtain ⟨m0, m1, m2, m3, m4⟩ := blk5 hC; have hlt := blk_lt hC; obtain ⟨o0, o1, o2, o3, o4⟩ := blk5 hO; have hlo := blk_lt hO)
      | (go_at_call 19; (with_reducible refine (kr0.out _).mono ?_); rintro e w3 ⟨rfl, hb⟩; have hx := Ext.trans' hx hb; have hC := Ext.blk hb hC; have hO := Ext.blk hb hO; obtain ⟨m0, m1, m2, m3, m4⟩ := blk5 hC; have hlt := blk_lt hC; obtain ⟨o0, o1, o2, o3, o4⟩ := blk5 hO; have hlo := blk_lt hO)
      | (go_at_call 19; (with_reducible refine (kr1.out _).mono ?_); rintro e w3 ⟨rfl, hb⟩; have hx := Ext.trans' hx hb; have hC := Ext.blk hb hC; have hO := Ext.blk hb hO; obtain ⟨m0, m1, m2, m3, m4⟩ := blk5 hC; have hlt := blk_lt hC; obtain ⟨o0, o1, o2, o3, o4⟩ := blk5 hO; have hlo := blk_lt hO)
      | fail)
    go_ret
    exact ⟨rfl, hx⟩
end Go.Proofs.YtpojemlnhbdfmaaDoor
