import Derived.Test.YtbnmnkmjokcmfaaDoorS10
import Derived.Test.YtbnmnkmjokcmfaaDoorS5
import Derived.Test.YtbnmnkmjokcmfaaDoorS8
/- season's law: real, shares, and the examples of the chapter. -/
namespace Go.Proofs.YtbnmnkmjokcmfaaDoor
open Go.RowKit
def l4 (a b c d : Int) : Nat → Int
  | 0 => a
  | 1 => b
  | 2 => c
  | _ => d
set_option maxRecDepth 100000 in
set_option maxHeartbeats 1000000 in
theorem real_any (a b c d : Int) (w : World) : Calls Tryd.prog 34 #[.int .i64 a, .int .i64 b, .int .i64 c, .int .i64 d] w fun e w' => e = .returned (.agg #[.int .i64 a, .int .i64 0, .int .i64 b, .int .i64 0, .int .i64 c, .int .i64 0, .int .i64 d, .int .i64 0]) ∧ Ext w w' := by
  have hx : Ext w (w.alloc (.cells #[.int .i64 0, .int .i64 0, .int .i64 0, .int .i64 0, .int .i64 0, .int .i64 0, .int .i64 0, .int .i64 0] 29)) := Ext.alloc (Below.refl _ _) _
  go_enter Tryd.func34, Tryd.ntmps34
  go_wp2
  refine bodyPost_ret (v := .agg #[.int .i64 a, .int .i64 0, .int .i64 b, .int .i64 0, .int .i64 c, .int .i64 0, .int .i64 d, .int .i64 0]) ?_ rfl ⟨rfl, ?_⟩
  · simp [results, Tryd.results34, go_sem]
  · go_grown
theorem Ctr.congr {w : World} {C W : Nat} {m n : Nat → Int} (h : Ctr w C W m) (e : ∀ j, j < 4 → m j = n j) : Ctr w C W n := by
  refine ⟨?_, h.w1, h.w2, fun j hj => by rw [← e j hj]; exact h.lim j hj⟩
  rw [h.hd]
  unfold ctC
  rw [e 0 (by omega), e 1 (by omega), e 2 (by omega), e 3 (by omega)]
set_option maxHeartbeats 2000000 in
theorem shares_any (w : World) (C W now s n : Nat) (m : Nat → Int) (h : Ctr w C W m) (hn : now < 18446744073709551616) (hs : sm m = s) (h0 : 0 < s) (hm : m (now / W % 4) = n) (x y : Nat) (hx : n / Nat.gcd s n = x) (hy : s / Nat.gcd s n = y) :
    Calls Tryd.prog 35 #[.pointer (some ⟨C, 0, none⟩), .int .u64 now, .int .i64 x, .int .i64 y] w fun e w' => e = .returned (.bool true) ∧ Ext w w' := by
  have c1 : Box (Calls Tryd.prog 32 #[.pointer (some ⟨C, 0, none⟩), .int .u64 now] w fun e w' => e = .returned (.tuple #[.int .i64 x, .int .i64 y, .int .i64 0]) ∧ Ext w w') := ⟨by have h9 := share_any w C W now s n m h hn hs h0 hm; rw [hx, hy] at h9; exact h9⟩
  have hx : Ext w w := Below.refl _ _
  clear hs hm h
  go_enter Tryd.func35, Tryd.ntmps35
  go_wp2_with (first | (go_at_call 32; (with_reducible refine (c1.out).mono ?_); rintro e w1 ⟨rfl, hb⟩; have hx := Ext.trans' hx hb))
  go_ret
  exact ⟨rfl, hx⟩
theorem dd1 (n : Nat) (h : n < 10) : Lib.decDigits n = [UInt8.ofNat (48 + n)] := by rw [Lib.decDigits, dif_pos h]
theorem itoa_d (n : Nat) (h : n < 10) : Lib.itoa (n : Int) = [UInt8.ofNat (48 + n)] := by
  unfold Lib.itoa
  rw [if_neg (by omega), Int.toNat_natCast, dd1 n h]
theorem itoa_m3 : Lib.itoa (-3) = [45, 51] := by
  unfold Lib.itoa
  rw [if_pos (by decide), show (-3 : Int).natAbs = 3 from rfl, dd1 3 (by decide)]; rfl
theorem tg1 : textG (-3) 2 = [45, 51, 43, 50, 105] := by
  unfold textG
  rw [itoa_m3, show max (2 : Int) (-2) = ((2 : Nat) : Int) from rfl, itoa_d 2 (by decide)]; rfl
theorem tg2 : textG 0 (-1) = [48, 45, 49, 105] := by
  unfold textG
  rw [show (0 : Int) = ((0 : Nat) : Int) from rfl, itoa_d 0 (by decide), show max (-1 : Int) (-(-1)) = ((1 : Nat) : Int) from rfl, itoa_d 1 (by decide)]; rfl
theorem tg3 : textG 4 0 = [52, 43, 48, 105] := by
  unfold textG
  rw [show (4 : Int) = ((4 : Nat) : Int) from rfl, itoa_d 4 (by decide), show max (0 : Int) (-0) = ((0 : Nat) : Int) from rfl, itoa_d 0 (by decide)]; rfl
theorem tg4 : textG 0 1 = [48, 43, 49, 105] := by
  unfold textG
  rw [show (0 : Int) = ((0 : Nat) : Int) from rfl, itoa_d 0 (by decide), show max (1 : Int) (-1) = ((1 : Nat) : Int) from rfl, itoa_d 1 (by decide)]; rfl
theorem k_tr (w : World) : Calls Tryd.prog 13 #[.agg #[.int .i64 1, .int .i64 0, .int .i64 2, .int .i64 0, .int .i64 3, .int .i64 0, .int .i64 4, .int .i64 0]] w fun e w' => e = .returned (.tuple #[.agg #[.int .i64 10, .int .i64 0, .int .i64 (-2), .int .i64 2, .int .i64 (-2), .int .i64 0, .int .i64 (-2), .int .i64 (-2)], .int .i64 0]) ∧ Ext w w' := by
  have h := transform_ok (l4 1 2 3 4) z0 w (by decide)
  have e : (.agg #[.int .i64 (tR (l4 1 2 3 4) z0 0), .int .i64 (tI (l4 1 2 3 4) z0 0), .int .i64 (tR (l4 1 2 3 4) z0 1), .int .i64 (tI (l4 1 2 3 4) z0 1), .int .i64 (tR (l4 1 2 3 4) z0 2), .int .i64 (tI (l4 1 2 3 4) z0 2), .int .i64 (tR (l4 1 2 3 4) z0 3), .int .i64 (tI (l4 1 2 3 4) z0 3)] : Value) = .agg #[.int .i64 10, .int .i64 0, .int .i64 (-2), .int .i64 2, .int .i64 (-2), .int .i64 0, .int .i64 (-2), .int .i64 (-2)] := by kernel_rfl
  rw [e] at h
  exact h
theorem k_in (w : World) : Calls Tryd.prog 14 #[.agg #[.int .i64 10, .int .i64 0, .int .i64 (-2), .int .i64 2, .int .i64 (-2), .int .i64 0, .int .i64 (-2), .int .i64 (-2)]] w fun e w' => e = .returned (.tuple #[.agg #[.int .i64 1, .int .i64 0, .int .i64 2, .int .i64 0, .int .i64 3, .int .i64 0, .int .i64 4, .int .i64 0], .int .i64 0]) ∧ Ext w w' := by
  have h := inverse_ok (l4 10 (-2) (-2) (-2)) (l4 0 2 0 (-2)) w (by decide)
  unfold IPost at h
  have e0 : allWh (iR (l4 10 (-2) (-2) (-2)) (l4 0 2 0 (-2))) (iI (l4 10 (-2) (-2) (-2)) (l4 0 2 0 (-2))) 4 = true := by kernel_rfl
  have e : (.agg #[.int .i64 (qt (iR (l4 10 (-2) (-2) (-2)) (l4 0 2 0 (-2))) 0), .int .i64 (qt (iI (l4 10 (-2) (-2) (-2)) (l4 0 2 0 (-2))) 0), .int .i64 (qt (iR (l4 10 (-2) (-2) (-2)) (l4 0 2 0 (-2))) 1), .int .i64 (qt (iI (l4 10 (-2) (-2) (-2)) (l4 0 2 0 (-2))) 1), .int .i64 (qt (iR (l4 10 (-2) (-2) (-2)) (l4 0 2 0 (-2))) 2), .int .i64 (qt (iI (l4 10 (-2) (-2) (-2)) (l4 0 2 0 (-2))) 2), .int .i64 (qt (iR (l4 10 (-2) (-2) (-2)) (l4 0 2 0 (-2))) 3), .int .i64 (qt (iI (l4 10 (-2) (-2) (-2)) (l4 0 2 0 (-2))) 3)] : Value) = .agg #[.int .i64 1, .int .i64 0, .int .i64 2, .int .i64 0, .int .i64 3, .int .i64 0, .int .i64 4, .int .i64 0] := by kernel_rfl
  rw [e0, if_pos rfl, e] at h
  exact h
theorem k_in2 (w : World) : Calls Tryd.prog 14 #[.agg #[.int .i64 1, .int .i64 0, .int .i64 0, .int .i64 0, .int .i64 0, .int .i64 0, .int .i64 0, .int .i64 0]] w fun e w' => e = .returned (.tuple #[.agg #[.int .i64 0, .int .i64 0, .int .i64 0, .int .i64 0, .int .i64 0, .int .i64 0, .int .i64 0, .int .i64 0], .int .i64 10]) ∧ Ext w w' := by
  have h := inverse_ok (l4 1 0 0 0) z0 w (by decide)
  unfold IPost at h
  have e0 : allWh (iR (l4 1 0 0 0) z0) (iI (l4 1 0 0 0) z0) 4 = false := by kernel_rfl
  rw [e0, if_neg (by decide)] at h
  exact h
theorem k_pr (w : World) : Calls Tryd.prog 15 #[.agg #[.int .i64 0, .int .i64 0, .int .i64 1, .int .i64 0, .int .i64 0, .int .i64 0, .int .i64 0, .int .i64 0], .agg #[.int .i64 5, .int .i64 0, .int .i64 6, .int .i64 0, .int .i64 7, .int .i64 0, .int .i64 8, .int .i64 0]] w fun e w' => e = .returned (.tuple #[.agg #[.int .i64 8, .int .i64 0, .int .i64 5, .int .i64 0, .int .i64 6, .int .i64 0, .int .i64 7, .int .i64 0], .int .i64 0]) ∧ Ext w w' := by
  have h := product_ok (l4 0 1 0 0) z0 (l4 5 6 7 8) z0 w (by decide) (by decide)
  have e : (.agg #[.int .i64 (prR (l4 0 1 0 0) z0 (l4 5 6 7 8) z0 0), .int .i64 (prI (l4 0 1 0 0) z0 (l4 5 6 7 8) z0 0), .int .i64 (prR (l4 0 1 0 0) z0 (l4 5 6 7 8) z0 1), .int .i64 (prI (l4 0 1 0 0) z0 (l4 5 6 7 8) z0 1), .int .i64 (prR (l4 0 1 0 0) z0 (l4 5 6 7 8) z0 2), .int .i64 (prI (l4 0 1 0 0) z0 (l4 5 6 7 8) z0 2), .int .i64 (prR (l4 0 1 0 0) z0 (l4 5 6 7 8) z0 3), .int .i64 (prI (l4 0 1 0 0) z0 (l4 5 6 7 8) z0 3)] : Value) = .agg #[.int .i64 8, .int .i64 0, .int .i64 5, .int .i64 0, .int .i64 6, .int .i64 0, .int .i64 7, .int .i64 0] := by kernel_rfl
  rw [e] at h
  exact h
theorem k_t1 (w : World) (ht : Tabs w) : Calls Tryd.prog 9 #[.agg #[.int .i64 (-3), .int .i64 2]] w fun e w' => e = .returned (.tuple #[.string ⟨#[45, 51, 43, 50, 105]⟩, .int .i64 0]) ∧ Ext w w' := by
  have h := stext_ok (-3) 2 w (by decide) ht
  rw [tg1] at h
  exact h
theorem k_t2 (w : World) (ht : Tabs w) : Calls Tryd.prog 9 #[.agg #[.int .i64 0, .int .i64 (-1)]] w fun e w' => e = .returned (.tuple #[.string ⟨#[48, 45, 49, 105]⟩, .int .i64 0]) ∧ Ext w w' := by
  have h := stext_ok 0 (-1) w (by decide) ht
  rw [tg2] at h
  exact h
theorem la_asc (s : ByteArray) (h1 : 1 ≤ s.size) (h8 : s.size ≤ 8) (ha : ∀ c ∈ s.data.toList, c.toNat < 128) (w : World) (hw : EnvS w) : La s w := fun w' hx => by
  by_cases h : s.size = 1
  · exact la_one s h ha w'
  · exact la_short s (by omega) h8 ha w' (hw.ext hx)
theorem k_p1 (w : World) (hw : EnvS w) : Calls Tryd.prog 11 #[.string ⟨#[52, 43, 48, 105]⟩] w fun e w' => e = .returned (.tuple #[.agg #[.int .i64 4, .int .i64 0], .int .i64 0]) ∧ Ext w w' := by
  have h := sparse_two ⟨#[52, 43, 48, 105]⟩ w hw (by decide) (la_asc _ (by decide) (by decide) (by decide) w hw) 1 (by decide) (by decide) (by decide) (by decide) 4 0 (by rfl) (by rfl)
  unfold PPost at h
  have e : txtG 4 0 = ⟨#[52, 43, 48, 105]⟩ := by unfold txtG; rw [if_pos (by decide), tg3]
  rw [if_pos e] at h
  exact h
theorem k_p2 (w : World) (hw : EnvS w) : Calls Tryd.prog 11 #[.string ⟨#[52]⟩] w fun e w' => e = .returned (.tuple #[.agg #[.int .i64 0, .int .i64 0], .int .i64 6]) ∧ Ext w w' :=
  sparse_at ⟨#[52]⟩ w (la_asc _ (by decide) (by decide) (by decide) w hw) (by decide)
theorem k_p3 (w : World) (hw : EnvS w) : Calls Tryd.prog 11 #[.string ⟨#[45, 48, 43, 49, 105]⟩] w fun e w' => e = .returned (.tuple #[.agg #[.int .i64 0, .int .i64 0], .int .i64 6]) ∧ Ext w w' := by
  have h := sparse_two ⟨#[45, 48, 43, 49, 105]⟩ w hw (by decide) (la_asc _ (by decide) (by decide) (by decide) w hw) 2 (by decide) (by decide) (by decide) (by decide) 0 1 (by rfl) (by rfl)
  unfold PPost at h
  have e : txtG 0 1 = ⟨#[48, 43, 49, 105]⟩ := by unfold txtG; rw [if_pos (by decide), tg4]
  rw [e, if_neg (by decide)] at h
  exact h
theorem k_use (w : World) (C now : Nat) (n : Int) (m m' : Nat → Int) (h : Ctr w C 10 m) (hn : now < 18446744073709551616) (h0 : useNo m 10 now n = 0) (he : ∀ j, j < 4 → upd m (now / 10 % 4) (m (now / 10 % 4) + n) j = m' j) :
    Calls Tryd.prog 24 #[.pointer (some ⟨C, 0, none⟩), .int .u64 now, .int .i64 n] w fun e w' => e = .returned (.int .i64 0) ∧ Ctr w' C 10 m' ∧ Tch C w w' :=
  (use_ok w C 10 now n m h hn h0).mono fun e w' ⟨h1, h2, h3⟩ => ⟨h1, h2.congr he, h3⟩
theorem all4 {p : Nat → Prop} (h0 : p 0) (h1 : p 1) (h2 : p 2) (h3 : p 3) : ∀ j, j < 4 → p j := fun j hj => by
  obtain rfl | rfl | rfl | rfl : j = 0 ∨ j = 1 ∨ j = 2 ∨ j = 3 := by omega
  all_goals assumption
end Go.Proofs.YtbnmnkmjokcmfaaDoor
