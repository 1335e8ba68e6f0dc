import Derived.Test.YtpojemlnhbdfmaaDoorG5
/- The reference's text of a configuration, the numbers in a string, and the reference's Parse. -/
namespace Go.Proofs.YtpojemlnhbdfmaaDoor
open Go.RowKit

set_option maxRecDepth 100000 in
set_option maxHeartbeats 4000000 in
theorem rtext_any (a b p : Nat) (s : Nat) (t : Bool) (w : World) (hs : s < 18446744073709551616) (ha : a ≤ 1048576) (hb : b ≤ 1099511627776) (hp : p ≤ 99) :
    Calls Tryd.prog 15 #[.agg #[.int .i64 a, .int .i64 b, .int .i64 p, .int .u64 s, .bool t]] w fun e w' => e = .returned (.string ⟨(textC ⟨a, b, p, s, t⟩).toArray⟩) ∧ Ext w w' := by
  have c1 : Box _ := ⟨fun w1 => decimal_any a w1 (by omega)⟩
  have c2 : Box _ := ⟨fun w1 => decimal_any b w1 (by omega)⟩
  have c3 : Box _ := ⟨fun w1 => decimal_any p w1 (by omega)⟩
  have c4 : Box _ := ⟨fun w1 => decimal_any s w1 hs⟩
  have u1 : IntKind.u64.wrap (a : Int) = a := by rw [IntKind.wrap_u64]; omega
  have u2 : IntKind.u64.wrap (b : Int) = b := by rw [IntKind.wrap_u64]; omega
  have u3 : IntKind.u64.wrap (p : Int) = p := by rw [IntKind.wrap_u64]; omega
  have s1 := digs_size a (by omega)
  have s2 := digs_size b (by omega)
  have s3 := digs_size p (by omega)
  have s4 := digs_size s hs
  have hfin : Box (∀ t : Bool, ⟨#[99, 111, 117, 110, 116, 61]⟩ ++ digs a ++ ⟨#[32, 98, 121, 116, 101, 115, 61]⟩ ++ digs b ++ ⟨#[32, 112, 114, 111, 116, 101, 99, 116, 101, 100, 61]⟩ ++ digs p ++ ⟨#[32, 115, 101, 101, 100, 61]⟩ ++ digs s ++ (if t then ⟨#[32, 115, 97, 109, 101, 61, 121, 101, 115]⟩ else ⟨#[32, 115, 97, 109, 101, 61, 110, 111]⟩) = (⟨(textC ⟨a, b, p, s, t⟩).toArray⟩ : ByteArray)) := ⟨fun t => by
    apply ByteArray.ext
    apply Array.ext'
    cases t <;> simp [ByteArray.data_append, textC, digs, itoa_nat, wCount, wBytes, wProt, wSeed, wSame, wYes, wNo]⟩
  have hfin := Box.mk (hfin.out t)
  have hx : Ext w (w.alloc (.cells #[.int .i64 a, .int .i64 b, .int .i64 p, .int .u64 s, .bool t] 24)) := Ext.alloc (Below.refl _ _) _
  have hB := newblk w (.cells #[.int .i64 a, .int .i64 b, .int .i64 p, .int .u64 s, .bool t] 24)
  obtain ⟨m0, m1, m2, m3, m4⟩ := blk5 hB
  generalize digs a = x1 at *
  generalize digs b = x2 at *
  generalize digs p = x3 at *
  generalize digs s = x4 at *
  have g1 : ¬ 9223372036854775807 < 6 + x1.size := by omega
  have g2 : ¬ 9223372036854775807 < 6 + x1.size + 7 := by omega
  have g3 : ¬ 9223372036854775807 < 6 + x1.size + 7 + x2.size := by omega
  have g4 : ¬ 9223372036854775807 < 6 + x1.size + 7 + x2.size + 11 := by omega
  have g5 : ¬ 9223372036854775807 < 6 + x1.size + 7 + x2.size + 11 + x3.size := by omega
  have g6 : ¬ 9223372036854775807 < 6 + x1.size + 7 + x2.size + 11 + x3.size + 6 := by omega
  have g7 : ¬ 9223372036854775807 < 6 + x1.size + 7 + x2.size + 11 + x3.size + 6 + x4.size := by omega
  have g8 : ¬ 9223372036854775807 < 6 + x1.size + 7 + x2.size + 11 + x3.size + 6 + x4.size + 9 := by omega
  have g9 : ¬ 9223372036854775807 < 6 + x1.size + 7 + x2.size + 11 + x3.size + 6 + x4.size + 8 := by omega
  clear hs ha hb hp
  cases t
  all_goals
    go_enter Tryd.func15, Tryd.ntmps15
    go_wp2
    go_region_held3 (fun w' => w'.cell? ⟨w.heap.size, 0, none⟩ = some (.int .i64 a) ∧ w'.cell? ⟨w.heap.size, 1, none⟩ = some (.int .i64 b) ∧ w'.cell? ⟨w.heap.size, 2, none⟩ = some (.int .i64 p) ∧ w'.cell? ⟨w.heap.size, 3, none⟩ = some (.int .u64 s))
      (first
        | go_keep
        | (exact ⟨m0, m1, m2, m3⟩))
      (first
        | (go_at_call 26; (with_reducible refine (c1.out _).mono ?_); rintro e w1 ⟨rfl, hb1⟩; have hx := Ext.trans' (Ext.drewN hx 1) hb1; have m0 := Ext.cell hb1 m0; have m1 := Ext.cell hb1 m1; have m2 := Ext.cell hb1 m2; have m3 := Ext.cell hb1 m3; have m4 := Ext.cell hb1 m4)
        | (go_at_call 26; (with_reducible refine (c2.out _).mono ?_); rintro e w1 ⟨rfl, hb1⟩; have hx := Ext.trans' hx hb1; have m0 := Ext.cell hb1 m0; have m1 := Ext.cell hb1 m1; have m2 := Ext.cell hb1 m2; have m3 := Ext.cell hb1 m3; have m4 := Ext.cell hb1 m4)
        | (go_at_call 26; (with_reducible refine (c3.out _).mono ?_); rintro e w1 ⟨rfl, hb1⟩; have hx := Ext.trans' hx hb1; have m0 := Ext.cell hb1 m0; have m1 := Ext.cell hb1 m1; have m2 := Ext.cell hb1 m2; have m3 := Ext.cell hb1 m3; have m4 := Ext.cell hb1 m4)
        | (go_at_call 26; (with_reducible refine (c4.out _).mono ?_); rintro e w1 ⟨rfl, hb1⟩; have hx := Ext.trans' hx hb1; have m0 := Ext.cell hb1 m0; have m1 := Ext.cell hb1 m1; have m2 := Ext.cell hb1 m2; have m3 := Ext.cell hb1 m3; have m4 := Ext.cell hb1 m4))
    all_goals
      go_wp2
      go_ret
      exact ⟨by rw [← hfin.out]; rfl, hx⟩

def nv (xs : List Nat) : List Value := xs.map fun (n : Nat) => Value.int .u64 (n : Int)
theorem index_at (s : ByteArray) (k : Nat) (h : k < s.size) (w : World) : (Instr.index 9 (.string s) (.int .i64 (k : Int))).run Tryd.prog w = .ok (.int .u8 (s[k].toNat : Int)) w := by
  go_simp
theorem row_shape {w : World} {B : Nat} {e : TypeId} {v : Value} {m : Nat} {xs : List Value} (h : w.ownsRow B e 1 v (m + 1) xs) : ∃ g cap, v = .slice (some ⟨g, 0, none⟩) (m + 1) cap := by
  rcases h.2 with ⟨_, h⟩ | ⟨g2, cap2, cur, hv, _⟩
  · omega
  · exact ⟨g2, cap2, hv⟩
theorem nv_len (xs : List Nat) : (nv xs).length = xs.length := by simp [nv]
theorem nv_set (xs : List Nat) (j z : Nat) : (nv xs).set j (.int .u64 (z : Int)) = nv (xs.set j z) := by simp [nv, List.map_set]
theorem nv_snoc (xs : List Nat) (z : Nat) : nv xs ++ [.int .u64 (z : Int)] = nv (xs ++ [z]) := by simp [nv]
theorem info_u64 : (Tryd.prog.info? 22).map (fun i => (i.zero, i.size, i.bytes)) = some (some (.int .u64 0), 1, 8) := by kernel_rfl
def NPost (w : World) (xs : List Nat) (e : Ending) (w' : World) : Prop := ∃ v, e = .returned v ∧ w'.ownsRow w.heap.size 22 1 v xs.length (nv xs) ∧ Ext w w'
theorem num_in (xs : List Nat) (c : UInt8) (h : 48 ≤ c.toNat ∧ c.toNat ≤ 57) (b : Bool) (ys : List Nat) (m : Nat) (hy : ys = if b then xs else xs ++ [0]) (hm : ys.length = m + 1) : numStep (b, xs) c = (true, ys.set m ((10 * ys.getD m 0 + (c.toNat - 48)) % 18446744073709551616)) := by
  unfold numStep
  rw [if_pos h]
  simp only
  rw [← hy, hm, Nat.add_sub_cancel]
theorem num_out (xs : List Nat) (c : UInt8) (h : c.toNat < 48 ∨ 57 < c.toNat) (b : Bool) : numStep (b, xs) c = (false, xs) := by
  unfold numStep
  rw [if_neg (by omega)]

set_option maxRecDepth 100000 in
set_option maxHeartbeats 4000000 in
theorem rnumbers_any (s : ByteArray) (w : World) (hs : s.size ≤ 1000000) :
    Calls Tryd.prog 27 #[.string s] w (NPost w (numsL s.data.toList)) := by
  obtain ⟨i0, hi, hz0, hz1, hz2⟩ := info_parts info_u64
  go_enter Tryd.func27, Tryd.ntmps27
  go_wp2
  go_loopw [3, 4, 5] (fun v b i wr => ∃ (k : Nat) (t : Bool) (xs : List Nat), k ≤ s.size ∧ i = .int .i64 k ∧ b = .bool t ∧ Box (numsF (false, []) (s.data.toList.take k) = (t, xs)) ∧ wr.ownsRow w.heap.size 22 1 v xs.length (nv xs) ∧ Box (t = true → xs ≠ []) ∧ xs.length ≤ k ∧ Ext w wr) (fun _ _ i _ => s.size - (intOf i).toNat)
  case atStart => exact ⟨0, false, [], by omega, rfl, rfl, ⟨rfl⟩, (World.ownsRow_nil _ _ _ _ : w.ownsRow w.heap.size 22 1 (.slice none 0 0) 0 []), ⟨by simp⟩, by simp, Below.refl _ _⟩
  case round =>
    obtain ⟨k, b, xs, hk, rfl, rfl, hF, hown, hne, hxk, hx⟩ := hrel
    have hsz := hx.size
    by_cases hlt : k < s.size
    · have htk : s.data.toList.take (k + 1) = s.data.toList.take k ++ [s[k]] := by rw [List.take_succ_eq_append_getElem (by exact hlt)]; rfl
      have hF1 : Box (numsF (false, []) (s.data.toList.take (k + 1)) = numStep (b, xs) s[k]) := ⟨by rw [htk, nums_app, hF.out]; rfl⟩
      clear htk hF
      have hix := index_at s k hlt
      generalize s[k] = c at *
      by_cases hd : c.toNat < 48 ∨ 57 < c.toNat
      · rw [num_out xs c hd b] at hF1
        rcases hd with hd | hd
        · have d1 : decide ((c.toNat : Int) < 48) = true := decide_eq_true (by omega)
          generalize (c.toNat : Int) = ci at *
          go_wp2
          go_roundw
          case rel => exact ⟨k + 1, false, xs, by omega, by go_num, rfl, hF1, hown, ⟨by simp⟩, by omega, hx⟩
          case measure => simp [intOf]; omega
        · have d1 : decide ((c.toNat : Int) < 48) = false := decide_eq_false (by omega)
          have d2 : decide (57 < (c.toNat : Int)) = true := decide_eq_true (by omega)
          generalize (c.toNat : Int) = ci at *
          go_wp2
          go_roundw
          case rel => exact ⟨k + 1, false, xs, by omega, by go_num, rfl, hF1, hown, ⟨by simp⟩, by omega, hx⟩
          case measure => simp [intOf]; omega
      · have d1 : decide ((c.toNat : Int) < 48) = false := decide_eq_false (by omega)
        have d2 : decide (57 < (c.toNat : Int)) = false := decide_eq_false (by omega)
        have hdd : 48 ≤ c.toNat ∧ c.toNat ≤ 57 := by omega
        cases b
        · have HN0 := num_in xs c hdd false (xs ++ [0]) xs.length (by simp) (by simp)
          go_wp2_with (at_builtin; refine wpList_push rfl _ _ 52 rfl w.heap.size 22 i0 (.int .u64 0) 1 8 Tryd.underlying52 hi hz0 hz1 hz2 rfl (by decide) _ _ _ rfl hown [.int .u64 0] rfl rfl (by simp [Value.oneCell']) (by omega) (by omega) hsz ?_; intro v1 w2 hown2 hg2 hbel2 hs2)
          obtain ⟨g, cap, rfl⟩ : ∃ g cap, v1 = .slice (some ⟨g, 0, none⟩) (xs.length + 1) cap := by
            rcases hown2.2 with ⟨_, h⟩ | ⟨g2, cap2, cur, hv, _⟩
            · omega
            · exact ⟨g2, cap2, hv⟩
          have hx1 : Ext w w2 := Below.trans hx hbel2
          clear hown hsz hbel2 hg2 hs2 hx hne
          obtain ⟨ys, hys⟩ : ∃ ys, ys = xs ++ [0] := ⟨_, rfl⟩
          have hyl : ys.length = xs.length + 1 := by rw [hys]; simp
          have hyl2 := Box.mk hyl
          have hown : w2.ownsRow w.heap.size 22 1 (.slice (some ⟨g, 0, none⟩) (xs.length + 1) cap) (xs.length + 1) (nv ys) := by
            rw [hys]
            have e := nv_snoc xs 0
            rw [← e]; exact hown2
          rw [← hys] at HN0
          have HN := Box.mk HN0
          clear hown2 hys HN0
          obtain ⟨m, hm⟩ : ∃ m, m = xs.length := ⟨_, rfl⟩
          rw [← hm] at hyl hyl2 hown HN ⊢
          have hmk : m ≤ k := by omega
          clear hm hxk
          generalize w2 = W1 at *
          have n4 : IntKind.i64.wrap ((m : Nat) : Int) = m := IntWalk.i64_in _ (by omega)
          have n7 : (0 : Int) ≤ (m : Int) := by omega
          have n8 : (m : Int) < (m : Int) + 1 := by omega
          have n9 : IntKind.i64.wrap ((m : Int) + 1) = (m : Int) + 1 := IntWalk.i64_in _ (by omega)
          have n10 : IntKind.i64.wrap ((m : Int) + 1 - 1) = (m : Int) := by rw [show (m : Int) + 1 - 1 = m by omega]; exact n4
          have n11 : (m : Int) + 1 - 1 = m := by omega
          have hcell : W1.cell? ⟨g, m, none⟩ = some (.int .u64 ((ys.getD m 0 : Nat) : Int)) := by rw [hown.cellAt m (by omega)]; simp [nv, hyl]
          have hfz : W1.frozen? ⟨g, m, none⟩ = false := hown.frozenAt m
          have hgb : w.heap.size ≤ g := (hown.lt g rfl).1
          have hst := Box.mk (hown.stored m (.int .u64 (((10 * ys.getD m 0 + (c.toNat - 48)) % 18446744073709551616 : Nat) : Int))).1
          rw [nv_set] at hst
          have hq : Box (numStep (false, xs) c = (true, ys.set m ((10 * ys.getD m 0 + (c.toNat - 48)) % 18446744073709551616))) := ⟨HN.out⟩
          have u1 : IntKind.u8.wrap ((c.toNat : Int) - 48) = (c.toNat : Int) - 48 := by rw [IntKind.wrap_u8]; omega
          have u2 : IntKind.u64.wrap (IntKind.u64.wrap (10 * ((ys.getD m 0 : Nat) : Int)) + ((c.toNat : Int) - 48)) = (((10 * ys.getD m 0 + (c.toNat - 48)) % 18446744073709551616 : Nat) : Int) := by
            rw [IntKind.wrap_u64, IntKind.wrap_u64]; omega
          have u3 : IntKind.u64.wrap ((c.toNat : Int) - 48) = (c.toNat : Int) - 48 := by rw [IntKind.wrap_u64]; omega
          generalize (10 * ys.getD m 0 + (c.toNat - 48)) % 18446744073709551616 = z at *
          generalize ys.getD m 0 = x at *
          clear HN hown hi hz0 hz1 hz2 d1 d2 hdd hyl
          go_region
          all_goals
            have hst2 := hst.out
            have hbel : Ext w ((W1.setCell ⟨g, m, none⟩ (.int .u64 (z : Int))).drew) := Below.drew (Below.setCell hx1 (p := ⟨g, m, none⟩) hgb _)
            clear hst hcell hfz hix n4 n7 n8 n9 n10 n11 u1 u2 u3
            go_wp2
            go_roundw
            case rel => exact ⟨k + 1, true, ys.set m z, by omega, by go_num, rfl, ⟨hF1.out.trans hq.out⟩, by rw [List.length_set, hyl2.out]; exact hst2.drew, ⟨fun _ h => by have := congrArg List.length h; rw [List.length_set, hyl2.out] at this; simp at this⟩, by rw [List.length_set, hyl2.out]; omega, hbel⟩
            case measure => simp [intOf]; omega
        · have hne2 := hne.out rfl
          obtain ⟨m, hm⟩ : ∃ m, xs.length = m + 1 := ⟨xs.length - 1, by have := List.length_pos_iff.2 hne2; omega⟩
          have hyl2 := Box.mk hm
          have hmk : m + 1 ≤ k := by omega
          have HN := Box.mk (num_in xs c hdd true xs m rfl hm)
          rw [hm] at hown
          obtain ⟨g, cap, rfl⟩ := row_shape hown
          have hyl := hm
          have hx1 := hx
          clear hm hne hxk hsz hne2
          generalize wr = W1 at *
          obtain ⟨ys, hys⟩ : ∃ ys, ys = xs := ⟨_, rfl⟩
          rw [← hys] at hyl hyl2 hown
          have HN : Box (numStep (true, xs) c = (true, ys.set m ((10 * ys.getD m 0 + (c.toNat - 48)) % 18446744073709551616))) := ⟨by rw [hys]; exact HN.out⟩
          clear hys
          have n4 : IntKind.i64.wrap ((m : Nat) : Int) = m := IntWalk.i64_in _ (by omega)
          have n7 : (0 : Int) ≤ (m : Int) := by omega
          have n8 : (m : Int) < (m : Int) + 1 := by omega
          have n9 : IntKind.i64.wrap ((m : Int) + 1) = (m : Int) + 1 := IntWalk.i64_in _ (by omega)
          have n10 : IntKind.i64.wrap ((m : Int) + 1 - 1) = (m : Int) := by rw [show (m : Int) + 1 - 1 = m by omega]; exact n4
          have n11 : (m : Int) + 1 - 1 = m := by omega
          have hcell : W1.cell? ⟨g, m, none⟩ = some (.int .u64 ((ys.getD m 0 : Nat) : Int)) := by rw [hown.cellAt m (by omega)]; simp [nv, hyl]
          have hfz : W1.frozen? ⟨g, m, none⟩ = false := hown.frozenAt m
          have hgb : w.heap.size ≤ g := (hown.lt g rfl).1
          have hst := Box.mk (hown.stored m (.int .u64 (((10 * ys.getD m 0 + (c.toNat - 48)) % 18446744073709551616 : Nat) : Int))).1
          rw [nv_set] at hst
          have hq : Box (numStep (true, xs) c = (true, ys.set m ((10 * ys.getD m 0 + (c.toNat - 48)) % 18446744073709551616))) := ⟨HN.out⟩
          have u1 : IntKind.u8.wrap ((c.toNat : Int) - 48) = (c.toNat : Int) - 48 := by rw [IntKind.wrap_u8]; omega
          have u2 : IntKind.u64.wrap (IntKind.u64.wrap (10 * ((ys.getD m 0 : Nat) : Int)) + ((c.toNat : Int) - 48)) = (((10 * ys.getD m 0 + (c.toNat - 48)) % 18446744073709551616 : Nat) : Int) := by
            rw [IntKind.wrap_u64, IntKind.wrap_u64]; omega
          have u3 : IntKind.u64.wrap ((c.toNat : Int) - 48) = (c.toNat : Int) - 48 := by rw [IntKind.wrap_u64]; omega
          generalize (10 * ys.getD m 0 + (c.toNat - 48)) % 18446744073709551616 = z at *
          generalize ys.getD m 0 = x at *
          clear HN hown hi hz0 hz1 hz2 d1 d2 hdd hyl
          go_wp2
          go_region
          all_goals
            have hst2 := hst.out
            have hbel : Ext w ((W1.setCell ⟨g, m, none⟩ (.int .u64 (z : Int))).drew) := Below.drew (Below.setCell hx1 (p := ⟨g, m, none⟩) hgb _)
            clear hst hcell hfz hix n4 n7 n8 n9 n10 n11 u1 u2 u3
            go_wp2
            go_roundw
            case rel => exact ⟨k + 1, true, ys.set m z, by omega, by go_num, rfl, ⟨hF1.out.trans hq.out⟩, by rw [List.length_set, hyl2.out]; exact hst2.drew, ⟨fun _ h => by have := congrArg List.length h; rw [List.length_set, hyl2.out] at this; simp at this⟩, by rw [List.length_set, hyl2.out]; omega, hbel⟩
            case measure => simp [intOf]; omega
    · obtain rfl : k = s.size := by omega
      rw [show s.data.toList.take s.size = s.data.toList from List.take_of_length_le (Nat.le_refl _)] at hF
      have hfin : Box (numsL s.data.toList = xs) := ⟨by unfold numsL; rw [hF.out]⟩
      clear hF hne
      go_wp2
      go_ret
      rw [hfin.out]
      exact ⟨_, rfl, hown, hx⟩
end Go.Proofs.YtpojemlnhbdfmaaDoor
