import Derived.Test.YtjeekfeimogehaaDoorC6
/- The examples of the chapter: 'known' returns true. -/
namespace Go.Proofs.YtjeekfeimogehaaDoor
open Go.RowKit

theorem erase_ext (W l : Int) (w : World) (h0 : 0 ≤ W) (h1 : W < 18446744073709551616) :
    Calls Tryd.prog 23 #[.int .u64 W, .int .i64 l] w fun e w' => e = .returned (.tuple #[.int .u64 (eraV W.toNat l), .int .i64 (eraE W.toNat l)]) ∧ Ext w w' :=
  (erase_any W l w h0 h1).mono fun e w' ⟨he, q, hq⟩ => ⟨he, hq ▸ below_drewN (Below.refl _ _) _⟩
theorem cset_ext (W l c : Int) (w : World) (h0 : 0 ≤ W) (h1 : W < 18446744073709551616) (h2 : 0 ≤ c) (h3 : c ≤ 255) :
    Calls Tryd.prog 21 #[.int .u64 W, .int .i64 l, .int .u8 c] w fun e w' => e = .returned (.tuple #[.int .u64 (setV W.toNat l c.toNat), .int .i64 (setE W.toNat l c.toNat)]) ∧ Ext w w' :=
  (cset_any W l c w h0 h1 h2 h3).mono fun e w' ⟨he, q, hq⟩ => ⟨he, hq ▸ below_drewN (Below.refl _ _) _⟩

def exGl (i : Nat) : Nat := [5, 128, 254, 127, 128, 128, 128, 128].getD i 0
def exAl (i : Nat) : Nat := [128, 128, 254, 127, 128, 128, 128, 128].getD i 0
def exHl (i : Nat) : Nat := [1, 2, 3, 4, 5, 6, 7, 8].getD i 0
def exBl (i : Nat) : Nat := [1, 2, 254, 4, 5, 6, 7, 8].getD i 0
def exG : Nat := WM.of8 exGl
def exA : Nat := WM.of8 exAl
def exH : Nat := WM.of8 exHl
def exB : Nat := WM.of8 exBl
theorem getD_lt (xs : List Nat) (h : ∀ x ∈ xs, x < 256) (i : Nat) : xs.getD i 0 < 256 := by
  rw [List.getD_eq_getElem?_getD]
  rcases Nat.lt_or_ge i xs.length with hi | hi
  · rw [List.getElem?_eq_getElem hi]; exact h _ (List.getElem_mem hi)
  · rw [List.getElem?_eq_none hi]; decide
theorem exGl_lt (i : Nat) : exGl i < 256 := getD_lt _ (by decide) i
theorem exAl_lt (i : Nat) : exAl i < 256 := getD_lt _ (by decide) i
theorem exHl_lt (i : Nat) : exHl i < 256 := getD_lt _ (by decide) i
theorem exBl_lt (i : Nat) : exBl i < 256 := getD_lt _ (by decide) i
theorem exG_lt : exG < 18446744073709551616 := WM.of8_lt _ exGl_lt
theorem exA_lt : exA < 18446744073709551616 := WM.of8_lt _ exAl_lt
theorem exH_lt : exH < 18446744073709551616 := WM.of8_lt _ exHl_lt
theorem exB_lt : exB < 18446744073709551616 := WM.of8_lt _ exBl_lt

theorem outB_congr (l m : Nat → Nat) (n : Nat) (h : ∀ i, i < n → l i = m i) : outB l n = outB m n := by
  induction n with
  | zero => rfl
  | succ n ih => unfold outB; rw [ih (fun i hi => h i (by omega)), h n (by omega)]
theorem outB_of8 (l : Nat → Nat) (hl : ∀ i, l i < 256) : outB (WM.lane (WM.of8 l)) 8 = outB l 8 := outB_congr _ _ _ fun i hi => WM.lane_of8 l hl i hi
theorem tok_num (n : Nat) (h : n < 128) : tok n = digs n := by unfold tok; rw [if_neg (by omega), if_neg (by omega)]
theorem tok_e : tok 128 = ⟨#[45]⟩ := rfl
theorem tok_d : tok 254 = ⟨#[120]⟩ := rfl
theorem tok_1 (n : Nat) (h : n < 10) : tok n = ⟨#[UInt8.ofNat (48 + n)]⟩ := by rw [tok_num n (by omega), digs_one n h]
theorem tok_127 : tok 127 = ⟨#[49, 50, 55]⟩ := by
  rw [tok_num 127 (by decide), digs_ten 127 (by decide), digs_ten (127 / 10) (by decide), digs_one (127 / 10 / 10) (by decide), digs_one (127 / 10 % 10) (by decide), digs_one (127 % 10) (by decide)]
  rfl
theorem txtG : outB (WM.lane exG) 8 = ⟨#[53, 32, 45, 32, 120, 32, 49, 50, 55, 32, 45, 32, 45, 32, 45, 32, 45]⟩ := by
  rw [show exG = WM.of8 exGl from rfl, outB_of8 _ exGl_lt]
  simp only [outB, show exGl 0 = 5 from rfl, show exGl 1 = 128 from rfl, show exGl 2 = 254 from rfl, show exGl 3 = 127 from rfl, show exGl 4 = 128 from rfl, show exGl 5 = 128 from rfl, show exGl 6 = 128 from rfl, show exGl 7 = 128 from rfl, tok_e, tok_d, tok_127, tok_1 5 (by decide)]
  rfl
theorem txtA : outB (WM.lane exA) 8 = ⟨#[45, 32, 45, 32, 120, 32, 49, 50, 55, 32, 45, 32, 45, 32, 45, 32, 45]⟩ := by
  rw [show exA = WM.of8 exAl from rfl, outB_of8 _ exAl_lt]
  simp only [outB, show exAl 0 = 128 from rfl, show exAl 1 = 128 from rfl, show exAl 2 = 254 from rfl, show exAl 3 = 127 from rfl, show exAl 4 = 128 from rfl, show exAl 5 = 128 from rfl, show exAl 6 = 128 from rfl, show exAl 7 = 128 from rfl, tok_e, tok_d, tok_127]
  rfl
theorem txtB : outB (WM.lane exB) 8 = ⟨#[49, 32, 50, 32, 120, 32, 52, 32, 53, 32, 54, 32, 55, 32, 56]⟩ := by
  rw [show exB = WM.of8 exBl from rfl, outB_of8 _ exBl_lt]
  simp only [outB, show exBl 0 = 1 from rfl, show exBl 1 = 2 from rfl, show exBl 2 = 254 from rfl, show exBl 3 = 4 from rfl, show exBl 4 = 5 from rfl, show exBl 5 = 6 from rfl, show exBl 6 = 7 from rfl, show exBl 7 = 8 from rfl, tok_d, tok_1 1 (by decide), tok_1 2 (by decide), tok_1 4 (by decide), tok_1 5 (by decide), tok_1 6 (by decide), tok_1 7 (by decide), tok_1 8 (by decide)]
  rfl

set_option maxHeartbeats 1000000 in
theorem textf_any (W : Int) (s : ByteArray) (w : World) (h0 : 0 ≤ W) (h1 : W < 18446744073709551616) (hv : WM.validN W.toNat = true) (hs : outB (WM.lane W.toNat) 8 = s) (htab : Tabs w) :
    Calls Tryd.prog 35 #[.int .u64 W, .int .i64 0, .string s] w fun e w' => e = .returned (.bool true) ∧ Below w.heap.size w w' := by
  have c1 : Box _ := ⟨text_any W w h0 h1 hv htab⟩
  rw [hs] at c1
  clear h0 h1 hv hs htab
  go_enter Tryd.func35, Tryd.ntmps35
  go_wp2_with (first | (go_at_call 25; (with_reducible refine c1.out.mono ?_); rintro e w' ⟨rfl, hb⟩))
  go_ret
  exact ⟨rfl, hb⟩

set_option maxHeartbeats 4000000 in
theorem known_any (w : World) (htab : Tabs w) : Calls Tryd.prog 20 #[] w fun e w' => e = .returned (.bool true) ∧ Below w.heap.size w w' := by
  have g1 := exG_lt; have a1 := exA_lt; have h1 := exH_lt; have b1 := exB_lt
  have Ht := Box.mk htab
  have hofG : Box (∀ w, Calls Tryd.prog 34 #[.agg #[.int .u8 5, .int .u8 128, .int .u8 254, .int .u8 127, .int .u8 128, .int .u8 128, .int .u8 128, .int .u8 128]] w fun e w' => e = .returned (.int .u64 exG) ∧ Ext w w') := ⟨fun w => of_any exGl w exGl_lt⟩
  have hofH : Box (∀ w, Calls Tryd.prog 34 #[.agg #[.int .u8 1, .int .u8 2, .int .u8 3, .int .u8 4, .int .u8 5, .int .u8 6, .int .u8 7, .int .u8 8]] w fun e w' => e = .returned (.int .u64 exH) ∧ Ext w w') := ⟨fun w => of_any exHl w exHl_lt⟩
  have hm5 : Box (∀ w, Calls Tryd.prog 10 #[.int .u64 exG, .int .u8 5] w fun e w' => e = .returned (.int .u8 1) ∧ w = w') := ⟨fun w => by have := cmatch_any exG 5 w (by omega) (by omega) (by omega) (by omega); rwa [show cmatch (exG : Int).toNat (5 : Int).toNat = 1 by decide +kernel] at this⟩
  have hm128 : Box (∀ w, Calls Tryd.prog 10 #[.int .u64 exG, .int .u8 128] w fun e w' => e = .returned (.int .u8 0) ∧ w = w') := ⟨fun w => by have := cmatch_any exG 128 w (by omega) (by omega) (by omega) (by omega); rwa [show cmatch (exG : Int).toNat (128 : Int).toNat = 0 by decide +kernel] at this⟩
  have hem : Box (∀ w, Calls Tryd.prog 12 #[.int .u64 exG] w fun e w' => e = .returned (.int .u8 242) ∧ w = w') := ⟨fun w => by have := empties_any exG w (by omega) (by omega); rwa [show WM.matchN (exG : Int).toNat 128 = 242 by decide +kernel] at this⟩
  have hfr : Box (∀ w, Calls Tryd.prog 14 #[.int .u64 exG] w fun e w' => e = .returned (.int .u8 246) ∧ w = w') := ⟨fun w => by have := free_any exG w (by omega) (by omega); rwa [show WM.freeN (exG : Int).toNat = 246 by decide +kernel] at this⟩
  have hfu : Box (∀ w, Calls Tryd.prog 16 #[.int .u64 exG] w fun e w' => e = .returned (.int .u8 9) ∧ w = w') := ⟨fun w => by have := full_any exG w (by omega) (by omega); rwa [show WM.fullN (exG : Int).toNat = 9 by decide +kernel] at this⟩
  have he0 : Box (∀ w, Calls Tryd.prog 23 #[.int .u64 exG, .int .i64 0] w fun e w' => e = .returned (.tuple #[.int .u64 exA, .int .i64 0]) ∧ Ext w w') := ⟨fun w => by have := erase_ext exG 0 w (by omega) (by omega); rwa [show eraV (exG : Int).toNat 0 = exA by decide +kernel, show eraE (exG : Int).toNat 0 = 0 by decide +kernel] at this⟩
  have he1 : Box (∀ w, Calls Tryd.prog 23 #[.int .u64 exG, .int .i64 1] w fun e w' => e = .returned (.tuple #[.int .u64 0, .int .i64 8]) ∧ Ext w w') := ⟨fun w => by have := erase_ext exG 1 w (by omega) (by omega); rwa [show eraV (exG : Int).toNat 1 = 0 by decide +kernel, show eraE (exG : Int).toNat 1 = 8 by decide +kernel] at this⟩
  have he8 : Box (∀ w, Calls Tryd.prog 23 #[.int .u64 exG, .int .i64 8] w fun e w' => e = .returned (.tuple #[.int .u64 0, .int .i64 3]) ∧ Ext w w') := ⟨fun w => by have := erase_ext exG 8 w (by omega) (by omega); rwa [show eraV (exG : Int).toNat 8 = 0 by decide +kernel, show eraE (exG : Int).toNat 8 = 3 by decide +kernel] at this⟩
  have heh : Box (∀ w, Calls Tryd.prog 23 #[.int .u64 exH, .int .i64 2] w fun e w' => e = .returned (.tuple #[.int .u64 exB, .int .i64 0]) ∧ Ext w w') := ⟨fun w => by have := erase_ext exH 2 w (by omega) (by omega); rwa [show eraV (exH : Int).toNat 2 = exB by decide +kernel, show eraE (exH : Int).toNat 2 = 0 by decide +kernel] at this⟩
  have hs0 : Box (∀ w, Calls Tryd.prog 21 #[.int .u64 exG, .int .i64 0, .int .u8 129] w fun e w' => e = .returned (.tuple #[.int .u64 0, .int .i64 2]) ∧ Ext w w') := ⟨fun w => by have := cset_ext exG 0 129 w (by omega) (by omega) (by omega) (by omega); rwa [show setV (exG : Int).toNat 0 (129 : Int).toNat = 0 by decide +kernel, show setE (exG : Int).toNat 0 (129 : Int).toNat = 2 by decide +kernel] at this⟩
  have hs8 : Box (∀ w, Calls Tryd.prog 21 #[.int .u64 exG, .int .i64 8, .int .u8 1] w fun e w' => e = .returned (.tuple #[.int .u64 0, .int .i64 3]) ∧ Ext w w') := ⟨fun w => by have := cset_ext exG 8 1 w (by omega) (by omega) (by omega) (by omega); rwa [show setV (exG : Int).toNat 8 (1 : Int).toNat = 0 by decide +kernel, show setE (exG : Int).toNat 8 (1 : Int).toNat = 3 by decide +kernel] at this⟩
  have htG : Box (∀ w, Tabs w → Calls Tryd.prog 35 #[.int .u64 exG, .int .i64 0, .string ⟨#[53, 32, 45, 32, 120, 32, 49, 50, 55, 32, 45, 32, 45, 32, 45, 32, 45]⟩] w fun e w' => e = .returned (.bool true) ∧ Ext w w') := ⟨fun w h => textf_any exG _ w (by omega) (by omega) (by decide +kernel) txtG h⟩
  have htA : Box (∀ w, Tabs w → Calls Tryd.prog 35 #[.int .u64 exA, .int .i64 0, .string ⟨#[45, 32, 45, 32, 120, 32, 49, 50, 55, 32, 45, 32, 45, 32, 45, 32, 45]⟩] w fun e w' => e = .returned (.bool true) ∧ Ext w w') := ⟨fun w h => textf_any exA _ w (by omega) (by omega) (by decide +kernel) txtA h⟩
  have htB : Box (∀ w, Tabs w → Calls Tryd.prog 35 #[.int .u64 exB, .int .i64 0, .string ⟨#[49, 32, 50, 32, 120, 32, 52, 32, 53, 32, 54, 32, 55, 32, 56]⟩] w fun e w' => e = .returned (.bool true) ∧ Ext w w') := ⟨fun w h => textf_any exB _ w (by omega) (by omega) (by decide +kernel) txtB h⟩
  have hbl : Box (∀ w, Calls Tryd.prog 18 #[] w fun e w' => e = .returned (.int .u64 (repI 128)) ∧ w = w') := ⟨blank_any⟩
  have hvb : Box (∀ w, Calls Tryd.prog 8 #[.int .u64 (repI 128)] w fun e w' => e = .returned (.bool true) ∧ w = w') := ⟨fun w => by have := valid_any (repI 128) w (by decide) (by decide); rwa [show WM.validN (repI 128).toNat = true by decide +kernel] at this⟩
  have hvx : Box (∀ w, Calls Tryd.prog 8 #[.int .u64 129] w fun e w' => e = .returned (.bool false) ∧ w = w') := ⟨fun w => by have := valid_any 129 w (by decide) (by decide); rwa [show WM.validN (129 : Int).toNat = false by decide +kernel] at this⟩
  generalize repI 128 = rb at *
  generalize exG = g at *; generalize exA = a at *; generalize exB = b at *; generalize exH = h at *
  have hx : Ext w w := Below.refl _ _
  clear g1 a1 h1 b1 htab
  go_enter Tryd.func20, Tryd.ntmps20
  go_wp2_with (first
    | (go_at_call 34; (with_reducible refine (hofG.out _).mono ?_); rintro e w1 ⟨rfl, hb⟩; have hx := Ext.trans' hx hb)
    | (go_at_call 34; (with_reducible refine (hofH.out _).mono ?_); rintro e w1 ⟨rfl, hb⟩; have hx := Ext.trans' hx hb)
    | (go_at_call 10; (with_reducible refine (hm5.out _).mono ?_); rintro e w' ⟨rfl, rfl⟩)
    | (go_at_call 10; (with_reducible refine (hm128.out _).mono ?_); rintro e w' ⟨rfl, rfl⟩)
    | (go_at_call 12; (with_reducible refine (hem.out _).mono ?_); rintro e w' ⟨rfl, rfl⟩)
    | (go_at_call 14; (with_reducible refine (hfr.out _).mono ?_); rintro e w' ⟨rfl, rfl⟩)
    | (go_at_call 16; (with_reducible refine (hfu.out _).mono ?_); rintro e w' ⟨rfl, rfl⟩)
    | (go_at_call 23; (with_reducible refine (he0.out _).mono ?_); rintro e w1 ⟨rfl, hb⟩; have hx := Ext.trans' hx hb)
    | (go_at_call 23; (with_reducible refine (he1.out _).mono ?_); rintro e w1 ⟨rfl, hb⟩; have hx := Ext.trans' hx hb)
    | (go_at_call 23; (with_reducible refine (he8.out _).mono ?_); rintro e w1 ⟨rfl, hb⟩; have hx := Ext.trans' hx hb)
    | (go_at_call 23; (with_reducible refine (heh.out _).mono ?_); rintro e w1 ⟨rfl, hb⟩; have hx := Ext.trans' hx hb)
    | (go_at_call 21; (with_reducible refine (hs0.out _).mono ?_); rintro e w1 ⟨rfl, hb⟩; have hx := Ext.trans' hx hb)
    | (go_at_call 21; (with_reducible refine (hs8.out _).mono ?_); rintro e w1 ⟨rfl, hb⟩; have hx := Ext.trans' hx hb)
    | (go_at_call 35; (with_reducible refine (htG.out _ (Ht.out.ext hx)).mono ?_); rintro e w1 ⟨rfl, hb⟩; have hx := Ext.trans' hx hb)
    | (go_at_call 35; (with_reducible refine (htA.out _ (Ht.out.ext hx)).mono ?_); rintro e w1 ⟨rfl, hb⟩; have hx := Ext.trans' hx hb)
    | (go_at_call 35; (with_reducible refine (htB.out _ (Ht.out.ext hx)).mono ?_); rintro e w1 ⟨rfl, hb⟩; have hx := Ext.trans' hx hb)
    | (go_at_call 18; (with_reducible refine (hbl.out _).mono ?_); rintro e w' ⟨rfl, rfl⟩)
    | (go_at_call 8; (with_reducible refine (hvb.out _).mono ?_); rintro e w' ⟨rfl, rfl⟩)
    | (go_at_call 8; (with_reducible refine (hvx.out _).mono ?_); rintro e w' ⟨rfl, rfl⟩))
  go_ret
  exact ⟨rfl, hx⟩
end Go.Proofs.YtjeekfeimogehaaDoor
