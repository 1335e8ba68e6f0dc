import Derived.Test.YtpojemlnhbdfmaaDoorG6
/- The reference's Parse of a configuration. -/
namespace Go.Proofs.YtpojemlnhbdfmaaDoor
open Go.RowKit

/-- Four numbers that stand in a block from 0 on. -/
def Sl4 (g a b p s : Nat) (w : World) : Prop := w.cell? ⟨g, 0, none⟩ = some (.int .u64 a) ∧ w.cell? ⟨g, 1, none⟩ = some (.int .u64 b) ∧ w.cell? ⟨g, 2, none⟩ = some (.int .u64 p) ∧ w.cell? ⟨g, 3, none⟩ = some (.int .u64 s)
theorem Sl4.ext {g a b p s : Nat} {w w' : World} (hb : Ext w w') (h : Sl4 g a b p s w) : Sl4 g a b p s w' := ⟨Ext.cell hb h.1, Ext.cell hb h.2.1, Ext.cell hb h.2.2.1, Ext.cell hb h.2.2.2⟩
theorem Sl4.row {w : World} {B : Nat} {e : TypeId} {g cap a b p s : Nat} (h : w.ownsRow B e 1 (.slice (some ⟨g, 0, none⟩) 4 cap) 4 (nv [a, b, p, s])) : Sl4 g a b p s w :=
  ⟨by rw [h.cellAt 0 (by omega)]; rfl, by rw [h.cellAt 1 (by omega)]; rfl, by rw [h.cellAt 2 (by omega)]; rfl, by rw [h.cellAt 3 (by omega)]; rfl⟩
theorem own_slice {w : World} {B : Nat} {e : TypeId} {v : Value} {n : Nat} {xs : List Value} (h : w.ownsRow B e 1 v n xs) : ∃ av cv, v = .slice av n cv := by
  rcases h.2 with ⟨rfl, rfl⟩ | ⟨g2, cap2, cur, hv, _⟩
  · exact ⟨_, _, rfl⟩
  · exact ⟨_, _, hv⟩
def rcE (o : Option Cfg) : Bool := o.isSome

set_option maxRecDepth 100000 in
set_option maxHeartbeats 4000000 in
theorem rparse_len (s : ByteArray) (w : World) (hs : s.size ≤ 1000000) (h : (numsL s.data.toList).length ≠ 4) :
    Calls Tryd.prog 16 #[.string s] w fun e w' => e = .returned (.tuple #[.agg #[.int .i64 0, .int .i64 0, .int .i64 0, .int .u64 0, .bool false], .bool false]) ∧ Ext w w' := by
  have hx : Ext w (w.alloc (.cells #[.int .i64 0, .int .i64 0, .int .i64 0, .int .u64 0, .bool false] 24)) := Ext.alloc (Below.refl _ _) _
  have hR := newblk w (.cells #[.int .i64 0, .int .i64 0, .int .i64 0, .int .u64 0, .bool false] 24)
  have cN : Box _ := ⟨rnumbers_any s (w.alloc (.cells #[.int .i64 0, .int .i64 0, .int .i64 0, .int .u64 0, .bool false] 24)) hs⟩
  generalize numsL s.data.toList = xs at *
  have e1 : ((xs.length : Int) == 4) = false := by rw [beq_eq_false_iff_ne]; omega
  have e2 : ((xs.length : Int) != 4) = true := by rw [bne_iff_ne]; omega
  go_enter Tryd.func16, Tryd.ntmps16
  go_wp2_with (first
    | (go_at_call 27; (with_reducible refine cN.out.mono ?_); rintro e w1 ⟨v, rfl, hown, hb⟩; obtain ⟨av, cv, rfl⟩ := own_slice hown; have hx := Ext.trans' hx hb; have hR := Ext.blk hb hR; obtain ⟨r0, r1, r2, r3, r4⟩ := blk5 hR; obtain ⟨f0, f1, f2, f3, f4⟩ := frz5 hR))
  obtain ⟨k0, k1, k2, k3, k4⟩ := blk5 (st5 hR (.int .i64 0) (.int .i64 0) (.int .i64 0) (.int .u64 0) (.bool false))
  refine bodyPost_ret (v := .tuple #[.agg #[.int .i64 0, .int .i64 0, .int .i64 0, .int .u64 0, .bool false], .bool false]) (by simp [results, Tryd.results16, go_sem, k0, k1, k2, k3, k4]) rfl ⟨rfl, ?_⟩
  exact Ext.st5 hx (Nat.le_refl _) _ _ _ _ _
theorem rparse_out (s : ByteArray) (w : World) (hs : s.size ≤ 1000000) (a b p n : Nat) (h : numsL s.data.toList = [a, b, p, n]) (hn : ¬ (a ≤ 1048576 ∧ b ≤ 1099511627776 ∧ p ≤ 99)) :
    Calls Tryd.prog 16 #[.string s] w fun e w' => e = .returned (.tuple #[.agg #[.int .i64 0, .int .i64 0, .int .i64 0, .int .u64 0, .bool false], .bool false]) ∧ Ext w w' := by
  have hx : Ext w (w.alloc (.cells #[.int .i64 0, .int .i64 0, .int .i64 0, .int .u64 0, .bool false] 24)) := Ext.alloc (Below.refl _ _) _
  have hR := newblk w (.cells #[.int .i64 0, .int .i64 0, .int .i64 0, .int .u64 0, .bool false] 24)
  have cN : Box _ := ⟨rnumbers_any s (w.alloc (.cells #[.int .i64 0, .int .i64 0, .int .i64 0, .int .u64 0, .bool false] 24)) hs⟩
  rw [h] at cN
  have key : (decide (1048576 < (a : Int)) = true) ∨ (decide (1048576 < (a : Int)) = false ∧ decide (1099511627776 < (b : Int)) = true) ∨ (decide (1048576 < (a : Int)) = false ∧ decide (1099511627776 < (b : Int)) = false ∧ decide (99 < (p : Int)) = true) := by
    simp only [decide_eq_true_eq, decide_eq_false_iff_not]; omega
  clear hn h
  rcases key with d1 | ⟨d1, d2⟩ | ⟨d1, d2, d3⟩
  all_goals
    go_enter Tryd.func16, Tryd.ntmps16
    go_wp2_with (first
      | (go_at_call 27; (with_reducible refine cN.out.mono ?_); rintro e w1 ⟨v, rfl, hown, hb⟩; obtain ⟨g, cap, rfl⟩ := row_shape hown; obtain ⟨n0, n1, n2, n3⟩ := Sl4.row hown; have hx := Ext.trans' hx hb; have hR := Ext.blk hb hR; obtain ⟨r0, r1, r2, r3, r4⟩ := blk5 hR; obtain ⟨f0, f1, f2, f3, f4⟩ := frz5 hR))
    obtain ⟨k0, k1, k2, k3, k4⟩ := blk5 (st5 hR (.int .i64 0) (.int .i64 0) (.int .i64 0) (.int .u64 0) (.bool false))
    refine bodyPost_ret (v := .tuple #[.agg #[.int .i64 0, .int .i64 0, .int .i64 0, .int .u64 0, .bool false], .bool false]) (by simp [results, Tryd.results16, go_sem, k0, k1, k2, k3, k4]) rfl ⟨rfl, ?_⟩
    exact Ext.st5 hx (Nat.le_refl _) _ _ _ _ _

set_option maxRecDepth 100000 in
set_option maxHeartbeats 4000000 in
theorem rparse_in (s : ByteArray) (w : World) (hs : s.size ≤ 1000000) (a b p n : Nat) (h : numsL s.data.toList = [a, b, p, n]) (ha : a ≤ 1048576) (hb : b ≤ 1099511627776) (hp : p ≤ 99) (hn : n < 18446744073709551616) :
    Calls Tryd.prog 16 #[.string s] w fun e w' => e = .returned (.tuple #[pcV (refC s.data.toList), .bool (rcE (refC s.data.toList))]) ∧ Ext w w' := by
  have hx0 : Ext w (w.alloc (.cells #[.int .i64 0, .int .i64 0, .int .i64 0, .int .u64 0, .bool false] 24)) := Ext.alloc (Below.refl _ _) _
  have hR0 := newblk w (.cells #[.int .i64 0, .int .i64 0, .int .i64 0, .int .u64 0, .bool false] 24)
  have cN : Box _ := ⟨rnumbers_any s (w.alloc (.cells #[.int .i64 0, .int .i64 0, .int .i64 0, .int .u64 0, .bool false] 24)) hs⟩
  rw [h] at cN
  have hres : Box (refC s.data.toList = if okC (mkC a b p n false) s.data.toList then some (mkC a b p n false) else if okC (mkC a b p n true) s.data.toList then some (mkC a b p n true) else none) := ⟨by
    unfold refC; rw [h]; simp only; rw [if_pos ⟨ha, hb, hp⟩]⟩
  have d1 : decide (1048576 < (a : Int)) = false := decide_eq_false (by omega)
  have d2 : decide (1099511627776 < (b : Int)) = false := decide_eq_false (by omega)
  have d3 : decide (99 < (p : Int)) = false := decide_eq_false (by omega)
  have u1 : IntKind.i64.wrap (a : Int) = a := IntWalk.i64_in _ (by omega)
  have u2 : IntKind.i64.wrap (b : Int) = b := IntWalk.i64_in _ (by omega)
  have u3 : IntKind.i64.wrap (p : Int) = p := IntWalk.i64_in _ (by omega)
  clear h
  go_enter Tryd.func16, Tryd.ntmps16
  go_wp2_with (first
    | (go_at_call 27; (with_reducible refine cN.out.mono ?_); rintro e w1 ⟨v, rfl, hown, hb1⟩; obtain ⟨g, cap, rfl⟩ := row_shape hown; have hN := Sl4.row hown; obtain ⟨n0, n1, n2, n3⟩ := Sl4.row hown; have hx := Ext.trans' hx0 hb1; have hR := Ext.blk hb1 hR0))
  clear hx0 hR0 hb1 hown n0 n1 n2 n3 cN d1 d2 d3
  go_loopw [5] (fun i wr => ∃ k : Nat, k ≤ 2 ∧ i = .int .i64 k ∧ Box (0 < k → ¬ okC (mkC a b p n false) s.data.toList) ∧ Box (1 < k → ¬ okC (mkC a b p n true) s.data.toList) ∧ Sl4 g a b p n wr ∧ wr.heap[w.heap.size]? = some (.cells #[.int .i64 0, .int .i64 0, .int .i64 0, .int .u64 0, .bool false] 24 (0, 0)) ∧ Ext w wr) (fun i _ => 2 - (intOf i).toNat)
  case atStart => exact ⟨0, by omega, rfl, ⟨by simp⟩, ⟨by simp⟩, hN, hR, hx⟩
  case round =>
    clear hx hR hN
    obtain ⟨k, hk, rfl, h0, h1, hN, hR, hx⟩ := hrel
    obtain ⟨r0, r1, r2, r3, r4⟩ := blk5 hR
    obtain ⟨f0, f1, f2, f3, f4⟩ := frz5 hR
    obtain rfl | rfl | rfl : k = 0 ∨ k = 1 ∨ k = 2 := by omega
    · have cT : Box _ := ⟨fun w1 => rtext_any a b p n false w1 hn ha hb hp⟩
      have cK : Box _ := ⟨fun w1 => (rcheck_any a b p n false w1).mono (R' := fun e w' => e = .returned (.int .i64 (chk3 a b p)) ∧ Ext w1 w') (fun e w' ⟨h1, h2⟩ => ⟨h1, h2 ▸ Ext.alloc (Below.refl _ _) _⟩)⟩
      obtain ⟨n0, n1, n2, n3⟩ := hN
      go_wp2
      go_region_held3 (fun w' => w'.cell? ⟨g, 0, none⟩ = some (.int .u64 a) ∧ w'.cell? ⟨g, 1, none⟩ = some (.int .u64 b) ∧ w'.cell? ⟨g, 2, none⟩ = some (.int .u64 p) ∧ w'.cell? ⟨g, 3, none⟩ = some (.int .u64 n))
        (first
          | go_keep
          | (exact ⟨n0, n1, n2, n3⟩))
        (fail)
      all_goals
        have hb2 : Ext wr (wr.alloc (.cells #[.int .i64 a, .int .i64 b, .int .i64 p, .int .u64 n, .bool false] 24)).drew := Ext.drewN (Ext.alloc (Below.refl _ _) _) 1
        have hC : (wr.alloc (.cells #[.int .i64 a, .int .i64 b, .int .i64 p, .int .u64 n, .bool false] 24)).drew.heap[wr.heap.size]? = some (.cells #[.int .i64 a, .int .i64 b, .int .i64 p, .int .u64 n, .bool false] 24 (0, 0)) := newblk wr _
        generalize (wr.alloc (.cells #[.int .i64 a, .int .i64 b, .int .i64 p, .int .u64 n, .bool false] 24)).drew = W2 at *
        have hN := Sl4.ext hb2 ⟨n0, n1, n2, n3⟩
        have hx := Ext.trans' hx hb2
        have hR := Ext.blk hb2 hR
        clear r0 r1 r2 r3 r4 f0 f1 f2 f3 f4 n0 n1 n2 n3 hb2
        obtain ⟨r0, r1, r2, r3, r4⟩ := blk5 hR
        obtain ⟨f0, f1, f2, f3, f4⟩ := frz5 hR
        obtain ⟨m0, m1, m2, m3, m4⟩ := blk5 hC
        by_cases hv : chk3 a b p = 0
        · rw [hv] at cK
          by_cases ht : textC ⟨a, b, p, n, false⟩ = s.data.toList
          · have HT : Box (okC (mkC a b p n false) s.data.toList) := ⟨⟨hv, ht⟩⟩
            rw [if_pos HT.out] at hres
            have e1 : ((⟨(textC ⟨a, b, p, n, false⟩).toArray⟩ : ByteArray).toList == s.toList) = true := by rw [Lib.toList_data, Lib.toList_data, beq_iff_eq]; exact ht
            generalize (⟨(textC ⟨a, b, p, n, false⟩).toArray⟩ : ByteArray) = tx at *
            clear hv ht
            go_wp2_with (first
            | (go_at_call 8; (with_reducible refine (cK.out _).mono ?_); rintro e w3 ⟨rfl, hb⟩; have hx := Ext.trans' hx hb; have hR := Ext.blk hb hR; have hC := Ext.blk hb hC; have hN := Sl4.ext hb hN; obtain ⟨r0, r1, r2, r3, r4⟩ := blk5 hR; obtain ⟨f0, f1, f2, f3, f4⟩ := frz5 hR; obtain ⟨m0, m1, m2, m3, m4⟩ := blk5 hC)
            | (go_at_call 15; (with_reducible refine (cT.out _).mono ?_); rintro e w3 ⟨rfl, hb⟩; have hx := Ext.trans' hx hb; have hR := Ext.blk hb hR; have hC := Ext.blk hb hC; have hN := Sl4.ext hb hN; obtain ⟨r0, r1, r2, r3, r4⟩ := blk5 hR; obtain ⟨f0, f1, f2, f3, f4⟩ := frz5 hR; obtain ⟨m0, m1, m2, m3, m4⟩ := blk5 hC))
            obtain ⟨k0, k1, k2, k3, k4⟩ := blk5 (st5 hR (.int .i64 a) (.int .i64 b) (.int .i64 p) (.int .u64 n) (.bool false))
            refine bodyPost_ret (v := .tuple #[.agg #[.int .i64 a, .int .i64 b, .int .i64 p, .int .u64 n, .bool false], .bool true]) (by simp [results, Tryd.results16, go_sem, k0, k1, k2, k3, k4]) rfl ⟨by rw [hres.out]; rfl, ?_⟩
            exact Ext.st5 hx (Nat.le_refl _) _ _ _ _ _
          · have HT : Box (¬ okC (mkC a b p n false) s.data.toList) := ⟨fun q => ht q.2⟩
            have e1 : ((⟨(textC ⟨a, b, p, n, false⟩).toArray⟩ : ByteArray).toList == s.toList) = false := by rw [Lib.toList_data, Lib.toList_data, beq_eq_false_iff_ne]; exact ht
            generalize (⟨(textC ⟨a, b, p, n, false⟩).toArray⟩ : ByteArray) = tx at *
            clear hv ht
            go_wp2_with (first
            | (go_at_call 8; (with_reducible refine (cK.out _).mono ?_); rintro e w3 ⟨rfl, hb⟩; have hx := Ext.trans' hx hb; have hR := Ext.blk hb hR; have hC := Ext.blk hb hC; have hN := Sl4.ext hb hN; obtain ⟨r0, r1, r2, r3, r4⟩ := blk5 hR; obtain ⟨f0, f1, f2, f3, f4⟩ := frz5 hR; obtain ⟨m0, m1, m2, m3, m4⟩ := blk5 hC)
            | (go_at_call 15; (with_reducible refine (cT.out _).mono ?_); rintro e w3 ⟨rfl, hb⟩; have hx := Ext.trans' hx hb; have hR := Ext.blk hb hR; have hC := Ext.blk hb hC; have hN := Sl4.ext hb hN; obtain ⟨r0, r1, r2, r3, r4⟩ := blk5 hR; obtain ⟨f0, f1, f2, f3, f4⟩ := frz5 hR; obtain ⟨m0, m1, m2, m3, m4⟩ := blk5 hC))
            go_roundw
            case rel => exact ⟨1, by omega, rfl, ⟨fun _ => HT.out⟩, ⟨by simp⟩, hN, hR, hx⟩
            case measure => simp [intOf]
        · have HT : Box (¬ okC (mkC a b p n false) s.data.toList) := ⟨fun q => hv q.1⟩
          have e1 : (chk3 a b p == 0) = false := by rw [beq_eq_false_iff_ne]; exact hv
          generalize chk3 a b p = y at *
          clear hv
          go_wp2_with (first
            | (go_at_call 8; (with_reducible refine (cK.out _).mono ?_); rintro e w3 ⟨rfl, hb⟩; have hx := Ext.trans' hx hb; have hR := Ext.blk hb hR; have hC := Ext.blk hb hC; have hN := Sl4.ext hb hN; obtain ⟨r0, r1, r2, r3, r4⟩ := blk5 hR; obtain ⟨f0, f1, f2, f3, f4⟩ := frz5 hR; obtain ⟨m0, m1, m2, m3, m4⟩ := blk5 hC)
            | (go_at_call 15; (with_reducible refine (cT.out _).mono ?_); rintro e w3 ⟨rfl, hb⟩; have hx := Ext.trans' hx hb; have hR := Ext.blk hb hR; have hC := Ext.blk hb hC; have hN := Sl4.ext hb hN; obtain ⟨r0, r1, r2, r3, r4⟩ := blk5 hR; obtain ⟨f0, f1, f2, f3, f4⟩ := frz5 hR; obtain ⟨m0, m1, m2, m3, m4⟩ := blk5 hC))
          go_roundw
          case rel => exact ⟨1, by omega, rfl, ⟨fun _ => HT.out⟩, ⟨by simp⟩, hN, hR, hx⟩
          case measure => simp [intOf]
    · have cT : Box _ := ⟨fun w1 => rtext_any a b p n true w1 hn ha hb hp⟩
      have cK : Box _ := ⟨fun w1 => (rcheck_any a b p n true w1).mono (R' := fun e w' => e = .returned (.int .i64 (chk3 a b p)) ∧ Ext w1 w') (fun e w' ⟨h1, h2⟩ => ⟨h1, h2 ▸ Ext.alloc (Below.refl _ _) _⟩)⟩
      obtain ⟨n0, n1, n2, n3⟩ := hN
      go_wp2
      go_region_held3 (fun w' => w'.cell? ⟨g, 0, none⟩ = some (.int .u64 a) ∧ w'.cell? ⟨g, 1, none⟩ = some (.int .u64 b) ∧ w'.cell? ⟨g, 2, none⟩ = some (.int .u64 p) ∧ w'.cell? ⟨g, 3, none⟩ = some (.int .u64 n))
        (first
          | go_keep
          | (exact ⟨n0, n1, n2, n3⟩))
        (fail)
      all_goals
        have hb2 : Ext wr (wr.alloc (.cells #[.int .i64 a, .int .i64 b, .int .i64 p, .int .u64 n, .bool true] 24)).drew := Ext.drewN (Ext.alloc (Below.refl _ _) _) 1
        have hC : (wr.alloc (.cells #[.int .i64 a, .int .i64 b, .int .i64 p, .int .u64 n, .bool true] 24)).drew.heap[wr.heap.size]? = some (.cells #[.int .i64 a, .int .i64 b, .int .i64 p, .int .u64 n, .bool true] 24 (0, 0)) := newblk wr _
        generalize (wr.alloc (.cells #[.int .i64 a, .int .i64 b, .int .i64 p, .int .u64 n, .bool true] 24)).drew = W2 at *
        have hN := Sl4.ext hb2 ⟨n0, n1, n2, n3⟩
        have hx := Ext.trans' hx hb2
        have hR := Ext.blk hb2 hR
        clear r0 r1 r2 r3 r4 f0 f1 f2 f3 f4 n0 n1 n2 n3 hb2
        obtain ⟨r0, r1, r2, r3, r4⟩ := blk5 hR
        obtain ⟨f0, f1, f2, f3, f4⟩ := frz5 hR
        obtain ⟨m0, m1, m2, m3, m4⟩ := blk5 hC
        by_cases hv : chk3 a b p = 0
        · rw [hv] at cK
          by_cases ht : textC ⟨a, b, p, n, true⟩ = s.data.toList
          · have HT : Box (okC (mkC a b p n true) s.data.toList) := ⟨⟨hv, ht⟩⟩
            rw [if_neg (h0.out (by omega)), if_pos HT.out] at hres
            have e1 : ((⟨(textC ⟨a, b, p, n, true⟩).toArray⟩ : ByteArray).toList == s.toList) = true := by rw [Lib.toList_data, Lib.toList_data, beq_iff_eq]; exact ht
            generalize (⟨(textC ⟨a, b, p, n, true⟩).toArray⟩ : ByteArray) = tx at *
            clear hv ht
            go_wp2_with (first
            | (go_at_call 8; (with_reducible refine (cK.out _).mono ?_); rintro e w3 ⟨rfl, hb⟩; have hx := Ext.trans' hx hb; have hR := Ext.blk hb hR; have hC := Ext.blk hb hC; have hN := Sl4.ext hb hN; obtain ⟨r0, r1, r2, r3, r4⟩ := blk5 hR; obtain ⟨f0, f1, f2, f3, f4⟩ := frz5 hR; obtain ⟨m0, m1, m2, m3, m4⟩ := blk5 hC)
            | (go_at_call 15; (with_reducible refine (cT.out _).mono ?_); rintro e w3 ⟨rfl, hb⟩; have hx := Ext.trans' hx hb; have hR := Ext.blk hb hR; have hC := Ext.blk hb hC; have hN := Sl4.ext hb hN; obtain ⟨r0, r1, r2, r3, r4⟩ := blk5 hR; obtain ⟨f0, f1, f2, f3, f4⟩ := frz5 hR; obtain ⟨m0, m1, m2, m3, m4⟩ := blk5 hC))
            obtain ⟨k0, k1, k2, k3, k4⟩ := blk5 (st5 hR (.int .i64 a) (.int .i64 b) (.int .i64 p) (.int .u64 n) (.bool true))
            refine bodyPost_ret (v := .tuple #[.agg #[.int .i64 a, .int .i64 b, .int .i64 p, .int .u64 n, .bool true], .bool true]) (by simp [results, Tryd.results16, go_sem, k0, k1, k2, k3, k4]) rfl ⟨by rw [hres.out]; rfl, ?_⟩
            exact Ext.st5 hx (Nat.le_refl _) _ _ _ _ _
          · have HT : Box (¬ okC (mkC a b p n true) s.data.toList) := ⟨fun q => ht q.2⟩
            have e1 : ((⟨(textC ⟨a, b, p, n, true⟩).toArray⟩ : ByteArray).toList == s.toList) = false := by rw [Lib.toList_data, Lib.toList_data, beq_eq_false_iff_ne]; exact ht
            generalize (⟨(textC ⟨a, b, p, n, true⟩).toArray⟩ : ByteArray) = tx at *
            clear hv ht
            go_wp2_with (first
            | (go_at_call 8; (with_reducible refine (cK.out _).mono ?_); rintro e w3 ⟨rfl, hb⟩; have hx := Ext.trans' hx hb; have hR := Ext.blk hb hR; have hC := Ext.blk hb hC; have hN := Sl4.ext hb hN; obtain ⟨r0, r1, r2, r3, r4⟩ := blk5 hR; obtain ⟨f0, f1, f2, f3, f4⟩ := frz5 hR; obtain ⟨m0, m1, m2, m3, m4⟩ := blk5 hC)
            | (go_at_call 15; (with_reducible refine (cT.out _).mono ?_); rintro e w3 ⟨rfl, hb⟩; have hx := Ext.trans' hx hb; have hR := Ext.blk hb hR; have hC := Ext.blk hb hC; have hN := Sl4.ext hb hN; obtain ⟨r0, r1, r2, r3, r4⟩ := blk5 hR; obtain ⟨f0, f1, f2, f3, f4⟩ := frz5 hR; obtain ⟨m0, m1, m2, m3, m4⟩ := blk5 hC))
            go_roundw
            case rel => exact ⟨2, by omega, rfl, ⟨fun _ => h0.out (by omega)⟩, ⟨fun _ => HT.out⟩, hN, hR, hx⟩
            case measure => simp [intOf]
        · have HT : Box (¬ okC (mkC a b p n true) s.data.toList) := ⟨fun q => hv q.1⟩
          have e1 : (chk3 a b p == 0) = false := by rw [beq_eq_false_iff_ne]; exact hv
          generalize chk3 a b p = y at *
          clear hv
          go_wp2_with (first
            | (go_at_call 8; (with_reducible refine (cK.out _).mono ?_); rintro e w3 ⟨rfl, hb⟩; have hx := Ext.trans' hx hb; have hR := Ext.blk hb hR; have hC := Ext.blk hb hC; have hN := Sl4.ext hb hN; obtain ⟨r0, r1, r2, r3, r4⟩ := blk5 hR; obtain ⟨f0, f1, f2, f3, f4⟩ := frz5 hR; obtain ⟨m0, m1, m2, m3, m4⟩ := blk5 hC)
            | (go_at_call 15; (with_reducible refine (cT.out _).mono ?_); rintro e w3 ⟨rfl, hb⟩; have hx := Ext.trans' hx hb; have hR := Ext.blk hb hR; have hC := Ext.blk hb hC; have hN := Sl4.ext hb hN; obtain ⟨r0, r1, r2, r3, r4⟩ := blk5 hR; obtain ⟨f0, f1, f2, f3, f4⟩ := frz5 hR; obtain ⟨m0, m1, m2, m3, m4⟩ := blk5 hC))
          go_roundw
          case rel => exact ⟨2, by omega, rfl, ⟨fun _ => h0.out (by omega)⟩, ⟨fun _ => HT.out⟩, hN, hR, hx⟩
          case measure => simp [intOf]
    · rw [if_neg (h0.out (by omega)), if_neg (h1.out (by omega))] at hres
      go_wp2
      obtain ⟨k0, k1, k2, k3, k4⟩ := blk5 (st5 hR (.int .i64 0) (.int .i64 0) (.int .i64 0) (.int .u64 0) (.bool false))
      refine bodyPost_ret (v := .tuple #[.agg #[.int .i64 0, .int .i64 0, .int .i64 0, .int .u64 0, .bool false], .bool false]) (by simp [results, Tryd.results16, go_sem, k0, k1, k2, k3, k4]) rfl ⟨by rw [hres.out]; rfl, ?_⟩
      exact Ext.st5 hx (Nat.le_refl _) _ _ _ _ _

theorem rparse_any (s : ByteArray) (w : World) (hs : s.size ≤ 1000000) :
    Calls Tryd.prog 16 #[.string s] w fun e w' => e = .returned (.tuple #[pcV (parseC s.data.toList), .bool (rcE (parseC s.data.toList))]) ∧ Ext w w' := by
  rw [← refC_eq]
  by_cases h4 : (numsL s.data.toList).length = 4
  · obtain ⟨a, b, p, n, h⟩ : ∃ a b p n, numsL s.data.toList = [a, b, p, n] := by
      match hx : numsL s.data.toList, h4 with
      | [a, b, p, n], _ => exact ⟨a, b, p, n, rfl⟩
    have hn : n < 18446744073709551616 := by
      have := nums_le s.data.toList (false, []) (by simp) n (by show n ∈ numsL s.data.toList; rw [h]; simp)
      unfold never at this; omega
    by_cases hb : a ≤ 1048576 ∧ b ≤ 1099511627776 ∧ p ≤ 99
    · exact rparse_in s w hs a b p n h hb.1 hb.2.1 hb.2.2 hn
    · have h2 : refC s.data.toList = none := by unfold refC; rw [h]; simp only; rw [if_neg hb]
      rw [h2]
      exact rparse_out s w hs a b p n h hb
  · have h2 : refC s.data.toList = none := by
      unfold refC
      split
      · rename_i a b p n hx; rw [hx] at h4; exact absurd rfl h4
      · rfl
    rw [h2]
    exact rparse_len s w hs h4
end Go.Proofs.YtpojemlnhbdfmaaDoor
