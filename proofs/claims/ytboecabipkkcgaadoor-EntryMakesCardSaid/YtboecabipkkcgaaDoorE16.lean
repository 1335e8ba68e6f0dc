import Derived.Test.YtboecabipkkcgaaDoorE13
import Derived.OwnWalk
/- Contracts of the law's costs, text, wrong and known. -/
namespace Go.Proofs.YtboecabipkkcgaaDoor
open Go.RowKit

theorem txtL_one (n : Nat) (h : n < 10) : txtL n = [UInt8.ofNat (48 + n)] := by
  unfold txtL never
  rw [if_neg (by omega), Lib.decDigits, dif_pos h]
theorem dd_one' (n : Nat) (h : n < 10) : Lib.decDigits n = [UInt8.ofNat (48 + n)] := by
  rw [Lib.decDigits, dif_pos h]
theorem wrong1 : parseE [48, 51, 32, 57, 32, 54, 49, 54, 50, 32, 102, 102, 48, 48] = none := by
  rw [← refE_eq]
  have h : birthR [48, 51] = none := by
    unfold birthR
    rw [if_neg (by decide), if_neg (by decide)]
    exact parseT_no _ 3 (by decide) rfl (by rw [txtL_one 3 (by decide)]; decide)
  show (match birthR [48, 51], parseT [57], decL [54, 49, 54, 50], decL [102, 102, 48, 48] with
    | some b, some d, some k, some v => if (Ent.mk k v d b).fine = true then some (Ent.mk k v d b) else none
    | _, _, _, _ => none) = none
  rw [h]
theorem wrong2 : parseE [51, 32, 57, 32, 54, 49, 54, 50, 32, 70, 70, 48, 48] = none := by
  rw [← refE_eq]
  have h : decL [70, 70, 48, 48] = none := by decide
  show (match birthR [51], parseT [57], decL [54, 49, 54, 50], decL [70, 70, 48, 48] with
    | some b, some d, some k, some v => if (Ent.mk k v d b).fine = true then some (Ent.mk k v d b) else none
    | _, _, _, _ => none) = none
  rw [h]
  cases birthR [51] <;> cases parseT [57] <;> cases decL [54, 49, 54, 50] <;> rfl
theorem wrong3 : parseE [51, 32, 57, 32, 45, 32, 102, 102, 48, 48] = none := by
  rw [← refE_eq]
  show (match birthR [51], parseT [57], some [], decL [102, 102, 48, 48] with
    | some b, some d, some k, some v => if (Ent.mk k v d b).fine = true then some (Ent.mk k v d b) else none
    | _, _, _, _ => none) = none
  cases birthR [51] <;> cases parseT [57] <;> cases decL [102, 102, 48, 48] <;> simp [Ent.fine]
theorem wrong4 : parseE [51, 32, 57, 32, 54, 49, 54, 50] = none := by
  rw [← refE_eq]; rfl

set_option maxHeartbeats 1000000 in
theorem costs_any (s : ByteArray) (n : Nat) (c e : Int) (w : World) (hs : s.size ≤ 1000000) (hn : n ≤ 100000) (hc : c = costV s.size n) (he : e = chk s.size n 1) :
    Calls Tryd.prog 13 #[.string s, .int .i64 n, .int .i64 c, .int .i64 e] w fun e w' => e = .returned (.bool true) ∧ Ext w w' := by
  obtain ⟨i0, hi, hz0, hz1, hz2⟩ := info_parts infoByte
  have c1 : Box _ := ⟨fun a w => cost_any s a n n w (by omega) (by omega)⟩
  rw [← hc, ← he] at c1
  have hx : Ext w w := Below.refl _ _
  clear hc he
  go_enter Tryd.func13, Tryd.ntmps13
  go_wp2_with (first
    | (at_make; refine wpList_make_full _ rfl _ _ 25 rfl w.heap.size 5 i0 (.int .u8 0) 1 Tryd.underlying25 hi hz0 hz1 .i64 .i64 _ _ n rfl rfl rfl rfl (by rw [hz2]; omega) (by unfold maxLen; omega) (Nat.le_refl _) ?_; intro w1 hown hgrow; have hx := Below.grown hx hgrow (Nat.le_refl _) (fun j hj => by cases hj); clear hown)
    | (go_at_call 25; (with_reducible refine (c1.out _ _).mono ?_); rintro e w1 ⟨rfl, hb⟩; have hx := Ext.trans' hx hb))
  go_ret
  exact ⟨rfl, hx⟩

set_option maxHeartbeats 1000000 in
theorem textf_any (k : ByteArray) (v : Value) (l : List UInt8) (d b : Nat) (s : ByteArray) (w : World) (hk : k.size ≤ 100000) (hl : l.length ≤ 100000) (hd : d < 18446744073709551616) (hb : b < 18446744073709551616) (hf : chk k.size l.length b = 0) (hv : By w v l) (hw : Env w) (hs : s.data.toList = Ent.text ⟨k.data.toList, l, d, b⟩) :
    Calls Tryd.prog 30 #[.string k, v, .int .u64 d, .int .u64 b, .string s] w fun e w' => e = .returned (.bool true) ∧ Ext w w' := by
  have c1 : Box (∀ w', Ext w w' → _) := ⟨fun w' hx => new_ok k v d b l w' (by omega) hb hf (hv.ext hx)⟩
  have c2 : Box (∀ v' w', By w' v' l → Ext w w' → Calls Tryd.prog 15 #[.agg #[.string k, v', .int .u64 d, .int .u64 b]] w' fun e w'' => e = .returned (.tuple #[.string s, .int .i64 0]) ∧ Ext w' w'') := ⟨fun v' w' hv hx => by
    have := etext_ok k v' l d b w' hk hl hd hb hf hv (hw.tabs.ext hx)
    rw [show (⟨(Ent.text ⟨k.data.toList, l, d, b⟩).toArray⟩ : ByteArray) = s from str_ext hs.symm] at this
    exact this⟩
  have hx : Ext w w := Below.refl _ _
  clear hf hv hw hs
  go_enter Tryd.func30, Tryd.ntmps30
  go_wp2_with (first
    | (go_at_call 22; (with_reducible refine (c1.out _ hx).mono ?_); rintro e w1 ⟨v', rfl, ho, hb1⟩; obtain ⟨a1, c1', rfl⟩ := ho.shape; have hx := Ext.trans' hx hb1; have hv4 := By.ext (Ext.alloc (Below.refl _ _) (.cells #[.string k, .slice a1 l.length c1', .int .u64 d, .int .u64 b] 33)) (ho.by (by omega)); have hE := newblk w1 (.cells #[.string k, .slice a1 l.length c1', .int .u64 d, .int .u64 b] 33))
    | (go_at_call 15; (with_reducible refine (c2.out _ _ hv4 (Ext.alloc hx _)).mono ?_); rintro e w2 ⟨rfl, hb⟩; have hx := Ext.trans' (Ext.alloc hx _) hb))
  go_ret
  exact ⟨rfl, hx⟩

set_option maxHeartbeats 1000000 in
theorem wrongf_any (s : ByteArray) (w : World) (hs : s.size ≤ 100000) (hw : Env w) (hp : parseE s.data.toList = none) :
    Calls Tryd.prog 19 #[.string s] w fun e w' => e = .returned (.bool true) ∧ Ext w w' := by
  have c1 : Box (Calls Tryd.prog 20 #[.string s] w fun e w' => e = .returned (.tuple #[zeroE, .int .i64 6]) ∧ Ext w w') := ⟨by
    have := eparse_any s w hs hw
    rw [hp] at this
    exact this⟩
  have c2 : Box (∀ w, Calls Tryd.prog 21 #[zeroE, zeroE] w fun e w' => e = .returned (.bool true) ∧ Ext w w') := ⟨fun w => refEqual_any ⟨#[]⟩ ⟨#[]⟩ (.slice none 0 0) (.slice none 0 0) [] [] 0 0 0 0 w (By.nil w) (By.nil w)⟩
  clear hp hw
  go_enter Tryd.func19, Tryd.ntmps19
  go_wp2_with (first
    | (go_at_call 20; (with_reducible refine (c1.out).mono ?_); rintro e w1 ⟨rfl, hb1⟩; have hx := Ext.alloc hb1 (.cells zeroC 33); have hE := newblk w1 (.cells zeroC 33))
    | (go_at_call 21; (with_reducible refine (c2.out _).mono ?_); rintro e w1 ⟨rfl, hb⟩; have hx := Ext.trans' hx hb))
  go_ret
  exact ⟨rfl, hx⟩
end Go.Proofs.YtboecabipkkcgaaDoor
