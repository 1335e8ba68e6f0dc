import Derived.Test.YtpojemlnhbdfmaaDoorG10
import Derived.Lib.ConvBytes
import Derived.Lib.SmallJoins
import Derived.Laws.IdiomStrings
import Derived.Laws.BitsAllLaws
import Derived.Deep.RegionHeld3
/- The law's walk: ConfigSpoils. -/
namespace Go.Proofs.YtpojemlnhbdfmaaDoor
open Go.RowKit

theorem text_sz (a b p : Int) (s : Nat) (t : Bool) (hb : InB a b p s) : (textC ⟨a, b, p, s, t⟩).length ≤ 200 ∧ 1 ≤ (textC ⟨a, b, p, s, t⟩).length := by
  have e1 := itoa_len a hb.2.1.1 hb.2.1.2
  have e2 := itoa_len b hb.2.2.1.1 hb.2.2.1.2
  have e3 := itoa_len p hb.2.2.2.1 hb.2.2.2.2
  have e4 := dd_len20 s hb.1
  unfold textC
  cases t <;> simp [wCount, wBytes, wProt, wSeed, wSame, wYes, wNo] <;> omega

set_option maxRecDepth 100000 in
theorem conv_bytes (w : World) (s : ByteArray) : ∃ c0 W3, (convert 9 37 (.string s)).run Tryd.prog w = .ok (.slice (some ⟨w.heap.size, 0, none⟩) s.size c0) W3 ∧ (∀ j, j < s.size → W3.cell? ⟨w.heap.size, j, none⟩ = some (.int .u8 ((s.data.toList.getD j 0).toNat : Int))) ∧ (∀ j, j < s.size → W3.frozen? ⟨w.heap.size, j, none⟩ = false) ∧ Ext w W3 := by
  refine ⟨_, _, Lib.run_convert_string_bytes w _ _ _ s Tryd.underlying9 Tryd.underlying37 Tryd.underlying5, fun j hj => Lib.bytesWorld_cell w _ s j hj, fun j hj => ?_, Joins.below_bytesWorld _ _ _ _ (Nat.le_refl _)⟩
  have h := Lib.bytesWorld_at_new w 5 s
  unfold World.frozen?
  rw [h]
  have hsz : s.size ≤ (Lib.bytesCells w 5 s).size := by
    have hc := Lib.bytesWorld_cell w 5 s (s.size - 1) (by omega)
    rw [Lib.cell_of_heap h] at hc
    have := (Array.getElem?_eq_some_iff.1 hc).1
    omega
  simp only
  simp
  omega
theorem conv_back (W : World) (B c : Nat) (l : List UInt8) (h : ∀ (j : Nat) (u : UInt8), l[j]? = some u → W.cell? ⟨B, j, none⟩ = some (.int .u8 (u.toNat : Int))) :
    (convert 37 9 (.slice (some ⟨B, 0, none⟩) l.length c)).run Tryd.prog W = .ok (.string ⟨l.toArray⟩) W := by
  refine run_convert_bytes_back W _ _ _ ⟨B, 0, none⟩ c l Tryd.underlying37 Tryd.underlying5 Tryd.underlying9 ?_
  intro j hj
  have hadd : (⟨B, 0, none⟩ : Addr).add j = ⟨B, j, none⟩ := by unfold Addr.add; split <;> simp_all
  rw [hadd]
  exact h j l[j] (List.getElem?_eq_getElem hj)
/-- A string with another byte at one place. -/
def chg (s : ByteArray) (i y : Nat) : ByteArray := ⟨(s.data.toList.set i (UInt8.ofNat ((s.data.toList.getD i 0).toNat ^^^ y))).toArray⟩
theorem chg_size (s : ByteArray) (i y : Nat) : (chg s i y).size = s.size := by
  show (s.data.toList.set i _).toArray.size = _
  rw [List.size_toArray, List.length_set]; rfl
theorem slice_lo (s : ByteArray) (i : Nat) (h : i ≤ s.size) : ∃ e : ByteArray, (∀ W, (Instr.sliceAt 9 (.string s) none (some (.int .i64 (i : Int))) none).run Tryd.prog W = .ok (.string e) W) ∧ e.size ≤ s.size := by
  refine ⟨s.extract 0 i, fun W => ?_, by rw [ByteArray.size_extract]; omega⟩
  have n1 : (i : Int) ≤ s.size := by omega
  have n0 : (0 : Int) ≤ (i : Int) := by omega
  go_simp
theorem slice_hi (s : ByteArray) (i : Nat) (h : i ≤ s.size) : ∃ e : ByteArray, (∀ W, (Instr.sliceAt 9 (.string s) (some (.int .i64 (i : Int))) none none).run Tryd.prog W = .ok (.string e) W) ∧ e.size ≤ s.size := by
  refine ⟨s.extract i s.size, fun W => ?_, by rw [ByteArray.size_extract]; omega⟩
  have n1 : (i : Int) ≤ s.size := by omega
  have n0 : (0 : Int) ≤ (i : Int) := by omega
  go_simp
theorem alloc_cell_old {w : World} {B : Nat} (h : B < w.heap.size) (o : Obj) (j : Nat) : (w.alloc o).drew.cell? ⟨B, j, none⟩ = w.cell? ⟨B, j, none⟩ :=
  heap_cell (w := w) (w' := (w.alloc o).drew) (b := B) ((Ext.alloc (Below.refl w.heap.size w) o).block B h) j
theorem chg_cell (W : World) (B : Nat) (s : ByteArray) (i y v0 : Nat) (hi : i < s.size) (hy : y < 256) (hv : v0 = (s.data.toList.getD i 0).toNat) (h : ∀ j, j < s.size → W.cell? ⟨B, j, none⟩ = some (.int .u8 ((s.data.toList.getD j 0).toNat : Int))) (j : Nat) (u : UInt8) (hj : (chg s i y).data.toList[j]? = some u) :
    (W.setCell ⟨B, i, none⟩ (.int .u8 ((v0 ^^^ y : Nat) : Int))).cell? ⟨B, j, none⟩ = some (.int .u8 (u.toNat : Int)) := by
  subst hv
  have hj' : (s.data.toList.set i (UInt8.ofNat ((s.data.toList.getD i 0).toNat ^^^ y)))[j]? = some u := hj
  have hjs : j < s.size := by
    have := (List.getElem?_eq_some_iff.1 hj').1
    rw [List.length_set] at this; exact this
  have hjl : j < s.data.toList.length := hjs
  by_cases e : i = j
  · subst e
    rw [World.cell?_setCell_same' _ _ _ (by rw [h i hjs]; rfl)]
    have hlt : (s.data.toList.getD i 0).toNat ^^^ y < 256 := Nat.xor_lt_two_pow (n := 8) (s.data.toList.getD i 0).toNat_lt hy
    rw [List.getElem?_set_self hjl] at hj'
    cases hj'
    rw [UInt8.toNat_ofNat', Nat.mod_eq_of_lt hlt]
  · rw [List.getElem?_set_ne e] at hj'
    rw [World.cell?_setCell_other W _ (a := ⟨B, i, none⟩) (b := ⟨B, j, none⟩) (fun q => e (by cases q; rfl)), h j hjs]
    rw [List.getD_eq_getElem?_getD, hj']; rfl

set_option maxRecDepth 100000 in
set_option maxHeartbeats 8000000 in
theorem spoils_ok (a b p : Int) (s : Nat) (t : Bool) (x y : Nat) (W : World) (hb : InB a b p s) (he : EnvG W) (h : chk3 a b p = 0) (hx : x < 256) (hy : y < 256) :
    Calls Tryd.prog 5 #[.agg #[.int .i64 a, .int .i64 b, .int .i64 p, .int .u64 s, .bool t], .int .u8 x, .int .u8 y] W fun e W' => e = .returned (.bool true) ∧ Below W.heap.size W W' := by
  obtain ⟨g1, g2, g3, g4, g5, g6⟩ := chk3_0 h
  have k1 : Box _ := ⟨fun w => (rcheck_any a b p s t w).mono (R' := fun e w' => e = .returned (.int .i64 (chk3 a b p)) ∧ Ext w w') (fun e w' ⟨h1, h2⟩ => ⟨h1, h2 ▸ Ext.alloc (Below.refl _ _) _⟩)⟩
  have k2 : Box _ := ⟨fun w => by
    have q := rtext_any a.toNat b.toNat p.toNat s t w hb.1 (by omega) (by omega) (by omega)
    rw [Int.toNat_of_nonneg (by omega), Int.toNat_of_nonneg (by omega), Int.toNat_of_nonneg g5] at q
    exact q⟩
  have c3 : Box (∀ w1, Ext W w1 → _) := ⟨fun w1 h => known_any w1 (he.ext h)⟩
  rw [h] at k1
  have hsz : (⟨(textC ⟨a, b, p, s, t⟩).toArray⟩ : ByteArray).size ≤ 200 ∧ 1 ≤ (⟨(textC ⟨a, b, p, s, t⟩).toArray⟩ : ByteArray).size := by
    have := text_sz a b p s t hb
    show (textC ⟨a, b, p, s, t⟩).toArray.size ≤ _ ∧ _ ≤ (textC ⟨a, b, p, s, t⟩).toArray.size
    rw [List.size_toArray]; exact this
  generalize (⟨(textC ⟨a, b, p, s, t⟩).toArray⟩ : ByteArray) = tx at *
  obtain ⟨s1, s2⟩ := hsz
  have hW := Ext.alloc (Below.refl W.heap.size W) (.cells #[.int .i64 a, .int .i64 b, .int .i64 p, .int .u64 s, .bool t] 24)
  have hC := newblk W (.cells #[.int .i64 a, .int .i64 b, .int .i64 p, .int .u64 s, .bool t] 24)
  obtain ⟨m0, m1, m2, m3, m4⟩ := blk5 hC
  have hlt := blk_lt hC
  have HE := Box.mk he
  obtain ⟨i, hi⟩ : ∃ i : Nat, i = x % tx.size := ⟨_, rfl⟩
  have hil : i < tx.size := by rw [hi]; exact Nat.mod_lt _ (by omega)
  have hi2 : (x : Int).tmod (tx.size : Int) = (i : Int) := by rw [Int.tmod_eq_emod_of_nonneg (by omega), hi]; omega
  have hi3 : (x : Int) % (tx.size : Int) = (i : Int) := by rw [hi]; omega
  have hz : ((tx.size : Int) == 0) = false := by rw [beq_eq_false_iff_ne]; omega
  clear hb he h hi g1 g2 g3 g4 g5 g6
  go_enter Tryd.func5, Tryd.ntmps5
  have u1 := fun (v : Nat) (hv : v < 256) => u8_xor_nat v y hv hy
  go_wp2_with (first
    | (go_at_call 8; (with_reducible refine (k1.out _).mono ?_); rintro e w1 ⟨rfl, hb⟩; have hW := Ext.trans' hW hb; have hC := Ext.blk hb hC; obtain ⟨m0, m1, m2, m3, m4⟩ := blk5 hC; have hlt := blk_lt hC)
    | (go_at_call 15; (with_reducible refine (k2.out _).mono ?_); rintro e w2 ⟨rfl, hb⟩; have hW := Ext.trans' hW hb; obtain ⟨c0, W3, hcv, hcl, hfz, h3⟩ := conv_bytes w2 tx; obtain ⟨v0, hv0⟩ : ∃ v0 : Nat, v0 = (tx.data.toList.getD i 0).toNat := ⟨_, rfl⟩; have hci := hcl i hil; rw [← hv0] at hci; have hfi := hfz i hil; have hbk := Box.mk (chg_cell W3 w2.heap.size tx i y v0 hil hy hv0 hcl); have u1 := u1 v0 (by rw [hv0]; exact (tx.data.toList.getD i 0).toNat_lt); have hW := Below.setCell (Ext.trans' hW h3) (p := ⟨w2.heap.size, i, none⟩) hW.size (.int .u8 ((v0 ^^^ y : Nat) : Int)); clear hfz hcl hv0))
  have hBl : w2.heap.size < (W3.setCell ⟨w2.heap.size, i, none⟩ (.int .u8 ((v0 ^^^ y : Nat) : Int))).heap.size := by simp; exact lt_of_cell hci
  generalize (W3.setCell ⟨w2.heap.size, i, none⟩ (.int .u8 ((v0 ^^^ y : Nat) : Int))) = W4 at *
  clear hci hfi u1 hcv h3
  have hcv : ∀ W', (∀ j, W'.cell? ⟨w2.heap.size, j, none⟩ = W4.cell? ⟨w2.heap.size, j, none⟩) → (convert 37 9 (.slice (some ⟨w2.heap.size, 0, none⟩) tx.size c0)).run Tryd.prog W' = .ok (.string (chg tx i y)) W' := fun W' h => by
    have q := conv_back W' w2.heap.size c0 (chg tx i y).data.toList (fun j u hj => (h j).trans (hbk.out j u hj))
    rw [show (chg tx i y).data.toList.length = tx.size from chg_size tx i y] at q
    exact q
  have hcv1 := hcv W4 (fun _ => rfl)
  have hcv2 := hcv W4.drew (fun _ => rfl)
  have hcs := chg_size tx i y
  generalize chg tx i y = ch at *
  have n3 : IntKind.i64.wrap ((i : Int) + 1) = (i : Int) + 1 := IntWalk.i64_in _ (by omega)
  obtain ⟨e1, hs1, he1⟩ := slice_lo tx i (by omega)
  obtain ⟨e2, hs2, he2⟩ := slice_hi tx (i + 1) (by omega)
  obtain ⟨e3, hs3, he3⟩ := slice_lo tx (i + 1) (by omega)
  obtain ⟨e4, hs4, he4⟩ := slice_hi tx i (by omega)
  rw [show ((i + 1 : Nat) : Int) = (i : Int) + 1 by omega] at hs2 hs3
  have q4 : ¬ 9223372036854775807 < e1.size + e2.size := by omega
  have q5 : ¬ 9223372036854775807 < e3.size + e4.size := by omega
  have q6 : ¬ 9223372036854775807 < tx.size + e1.size := by omega
  have HV := Box.mk hcv
  clear hcv hbk
  go_region_held3 (fun w' => (convert 37 9 (.slice (some ⟨w2.heap.size, 0, none⟩) tx.size c0)).run Tryd.prog w' = .ok (.string ch) w')
    (first
      | (exact hcv2)
      | (exact hcv1)
      | (exact HV.out _ (alloc_cell_old hBl _))
      | go_keep)
    (fail)
  have hz5 : ∀ k, k < 5 → ∃ z, [Value.string ch, .string (e1 ++ e2), .string (e3 ++ e4), .string e1, .string (tx ++ e1)][k]? = some (.string z) ∧ z.size ≤ 1000000 := fun k hk => by
    obtain rfl | rfl | rfl | rfl | rfl : k = 0 ∨ k = 1 ∨ k = 2 ∨ k = 3 ∨ k = 4 := by omega
    · exact ⟨_, rfl, by omega⟩
    · exact ⟨_, rfl, by rw [ByteArray.size_append]; omega⟩
    · exact ⟨_, rfl, by rw [ByteArray.size_append]; omega⟩
    · exact ⟨_, rfl, by omega⟩
    · exact ⟨_, rfl, by rw [ByteArray.size_append]; omega⟩
  have HZ := Box.mk hz5
  have hD0 : (W4.alloc (.cells #[Value.string ch, .string (e1 ++ e2), .string (e3 ++ e4), .string e1, .string (tx ++ e1)] 9)).drew.heap[W4.heap.size]? = some (.cells [Value.string ch, .string (e1 ++ e2), .string (e3 ++ e4), .string e1, .string (tx ++ e1)].toArray 9 (0, 0)) := newblk W4 _
  have hW5 : Ext W (W4.alloc (.cells #[Value.string ch, .string (e1 ++ e2), .string (e3 ++ e4), .string e1, .string (tx ++ e1)] 9)).drew := Ext.drewN (Ext.alloc hW _) 1
  generalize [Value.string ch, .string (e1 ++ e2), .string (e3 ++ e4), .string e1, .string (tx ++ e1)] = ys at *
  go_wp2
  generalize (W4.alloc (.cells #[Value.string ch, .string (e1 ++ e2), .string (e3 ++ e4), .string e1, .string (tx ++ e1)] 9)).drew = W5 at *
  generalize W4.heap.size = g at *
  clear hz5 hs1 hs2 hs3 hs4 q4 q5 q6 he1 he2 he3 he4 hcv1 hcv2 HV n3 hcs hBl hW
  go_loopw [65] (fun i wr => ∃ k : Nat, k ≤ 5 ∧ i = .int .i64 k ∧ wr.heap[g]? = some (.cells ys.toArray 9 (0, 0)) ∧ Ext W wr) (fun i _ => 5 - (intOf i).toNat)
  case atStart => exact ⟨0, by omega, rfl, hD0, hW5⟩
  case round =>
    clear hD0 hW5
    obtain ⟨k, hk, rfl, hD, hW⟩ := hrel
    by_cases hlk : k < 5
    · obtain ⟨z, hz1, hz2⟩ := HZ.out k hlk
      have hcz : wr.cell? ⟨g, k, none⟩ = some (.string z) := by
        rw [Lib.cell_of_heap hD, List.getElem?_toArray]; exact hz1
      have c1 : Box _ := ⟨fun w => rparse_any z w hz2⟩
      have c2 : Box (∀ v k w1, v = pcV (parseC z.data.toList) → k = pcE (parseC z.data.toList) → Ext W w1 → _) := ⟨fun v k w1 hv hk h => parses_yes z v k w1 hz2 (HE.out.ext h) hv hk⟩
      clear hz1 hz2
      cases ho : parseC z.data.toList with
      | none =>
        skip
        rw [ho] at c1 c2
        have c2 : Box (∀ w1, Ext W w1 → Calls Tryd.prog 17 #[.string z, .agg #[.int .i64 0, .int .i64 0, .int .i64 0, .int .u64 0, .bool false], .int .i64 6] w1 fun e w' => e = .returned (.bool true) ∧ Ext w1 w') := ⟨fun w1 h => c2.out _ _ w1 rfl rfl h⟩
        simp only [pcV, rcE, Option.isSome] at c1
        clear ho
        go_wp2_with (first
          | (go_at_call 16; (with_reducible refine (c1.out _).mono ?_); rintro e w1 ⟨rfl, hb⟩; have hD := Ext.blk (Ext.trans' hb (Ext.alloc (Below.refl _ w1) (.cells #[.int .i64 0, .int .i64 0, .int .i64 0, .int .u64 0, .bool false] 24))) hD; have hW := Ext.alloc (Ext.trans' hW hb) (.cells #[.int .i64 0, .int .i64 0, .int .i64 0, .int .u64 0, .bool false] 24))
          | (go_at_call 17; (with_reducible refine (c2.out _ hW).mono ?_); rintro e w3 ⟨rfl, hb⟩; have hW := Ext.trans' hW hb; have hD := Ext.blk hb hD))
        go_roundw
        case rel => exact ⟨k + 1, by omega, by go_num, hD, hW⟩
        case measure => simp [intOf]; omega
      | some c =>
        obtain ⟨a1, b1, p1, n1, t1⟩ := c
        rw [ho] at c1 c2
        have c2 : Box (∀ w1, Ext W w1 → Calls Tryd.prog 17 #[.string z, .agg #[.int .i64 a1, .int .i64 b1, .int .i64 p1, .int .u64 n1, .bool t1], .int .i64 0] w1 fun e w' => e = .returned (.bool true) ∧ Ext w1 w') := ⟨fun w1 h => c2.out _ _ w1 rfl rfl h⟩
        simp only [pcV, rcE, Option.isSome] at c1
        clear ho
        go_wp2_with (first
          | (go_at_call 16; (with_reducible refine (c1.out _).mono ?_); rintro e w1 ⟨rfl, hb⟩; have hD := Ext.blk (Ext.trans' hb (Ext.alloc (Below.refl _ w1) (.cells #[.int .i64 a1, .int .i64 b1, .int .i64 p1, .int .u64 n1, .bool t1] 24))) hD; have hW := Ext.alloc (Ext.trans' hW hb) (.cells #[.int .i64 a1, .int .i64 b1, .int .i64 p1, .int .u64 n1, .bool t1] 24))
          | (go_at_call 17; (with_reducible refine (c2.out _ hW).mono ?_); rintro e w3 ⟨rfl, hb⟩; have hW := Ext.trans' hW hb; have hD := Ext.blk hb hD))
        go_roundw
        case rel => exact ⟨k + 1, by omega, by go_num, hD, hW⟩
        case measure => simp [intOf]; omega
    · obtain rfl : k = 5 := by omega
      go_wp2_with (first
        | (go_at_call 13; (with_reducible refine (c3.out _ hW).mono ?_); rintro e w3 ⟨rfl, hb⟩; have hW := Ext.trans' hW hb))
      go_ret
      exact ⟨rfl, hW⟩

set_option maxRecDepth 100000 in
set_option maxHeartbeats 4000000 in
theorem spoils_bad (a b p : Int) (s : Nat) (t : Bool) (x y : Nat) (W : World) (he : EnvG W) (h : chk3 a b p ≠ 0) :
    Calls Tryd.prog 5 #[.agg #[.int .i64 a, .int .i64 b, .int .i64 p, .int .u64 s, .bool t], .int .u8 x, .int .u8 y] W fun e W' => e = .returned (.bool true) ∧ Below W.heap.size W W' := by
  have k1 : Box _ := ⟨fun w => (rcheck_any a b p s t w).mono (R' := fun e w' => e = .returned (.int .i64 (chk3 a b p)) ∧ Ext w w') (fun e w' ⟨h1, h2⟩ => ⟨h1, h2 ▸ Ext.alloc (Below.refl _ _) _⟩)⟩
  have c3 : Box (∀ w1, Ext W w1 → _) := ⟨fun w1 h => known_any w1 (he.ext h)⟩
  have hx := Ext.alloc (Below.refl W.heap.size W) (.cells #[.int .i64 a, .int .i64 b, .int .i64 p, .int .u64 s, .bool t] 24)
  have h1 : (chk3 a b p == 0) = false := by rw [beq_eq_false_iff_ne]; exact h
  have h2 : (chk3 a b p != 0) = true := by rw [bne_iff_ne]; exact h
  generalize chk3 a b p = k at *
  clear h he
  go_enter Tryd.func5, Tryd.ntmps5
  go_wp2_with (first
    | (go_at_call 8; (with_reducible refine (k1.out _).mono ?_); rintro e w1 ⟨rfl, hb⟩; have hx := Ext.trans' hx hb)
    | (go_at_call 13; (with_reducible refine (c3.out _ hx).mono ?_); rintro e w1 ⟨rfl, hb⟩; have hx := Ext.trans' hx hb))
  go_ret
  exact ⟨rfl, hx⟩
theorem lawConfigSpoils_walk (v : Value) (x y : Int) (W : World) (hv : CfgArg v) (wx : (Lit.int .u8 x).wf = true) (wy : (Lit.int .u8 y).wf = true) (he : EnvG W) :
    Calls Tryd.prog 5 #[v, .int .u8 x, .int .u8 y] W fun e W' => e = .returned (.bool true) ∧ Below W.heap.size W W' := by
  obtain ⟨a, b, p, s, t, rfl, hb⟩ := hv
  have hx := wf_u8 wx
  have hy := wf_u8 wy
  obtain ⟨x, rfl⟩ := Int.eq_ofNat_of_zero_le hx.1
  obtain ⟨y, rfl⟩ := Int.eq_ofNat_of_zero_le hy.1
  by_cases h : chk3 a b p = 0
  · exact spoils_ok a b p s t x y W hb he h (by omega) (by omega)
  · exact spoils_bad a b p s t x y W he h
end Go.Proofs.YtpojemlnhbdfmaaDoor
