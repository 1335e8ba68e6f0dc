import Derived.Test.YtpojemlnhbdfmaaDoorG2
import Derived.Test.YtpojemlnhbdfmaaDoorGE
import Derived.Test.YtpojemlnhbdfmaaDoorEB
import Derived.Test.YtpojemlnhbdfmaaDoorTF
import Derived.Deep.RegionHeld3
/- The program's text of a configuration. -/
namespace Go.Proofs.YtpojemlnhbdfmaaDoor
open Go.RowKit

theorem newblk (w : World) (o : Obj) : (w.alloc o).heap[w.heap.size]? = some o := by
  show (w.heap.push o)[w.heap.size]? = some o
  simp
theorem Ext.blk {W w1 : World} (hb : Ext W w1) {B : Nat} {o : Obj} (h : W.heap[B]? = some o) : w1.heap[B]? = some o :=
  (hb.block B (Array.getElem?_eq_some_iff.1 h).1).trans h
theorem blk_lt {w : World} {B : Nat} {o : Obj} (h : w.heap[B]? = some o) : B < w.heap.size := (Array.getElem?_eq_some_iff.1 h).1
theorem blk5 {w : World} {B : Nat} {c0 c1 c2 c3 c4 : Value} {T : TypeId} (h : w.heap[B]? = some (.cells #[c0, c1, c2, c3, c4] T (0, 0))) :
    w.cell? ⟨B, 0, none⟩ = some c0 ∧ w.cell? ⟨B, 1, none⟩ = some c1 ∧ w.cell? ⟨B, 2, none⟩ = some c2 ∧ w.cell? ⟨B, 3, none⟩ = some c3 ∧ w.cell? ⟨B, 4, none⟩ = some c4 :=
  ⟨by rw [Lib.cell_of_heap h]; rfl, by rw [Lib.cell_of_heap h]; rfl, by rw [Lib.cell_of_heap h]; rfl, by rw [Lib.cell_of_heap h]; rfl, by rw [Lib.cell_of_heap h]; rfl⟩
theorem ownsRow_ext {w w' : World} (hb : Ext w w') {base : Nat} {e : TypeId} {size : Nat} {v : Value} {n : Nat} {xs : List Value} (h : w.ownsRow base e size v n xs) : w'.ownsRow base e size v n xs := by
  refine ⟨h.1, ?_⟩
  rcases h.2 with h2 | ⟨g, cap, cur, hv, hb1, hg, r⟩
  · exact Or.inl h2
  · exact Or.inr ⟨g, cap, cur, hv, hb1, (hb.block g (Array.getElem?_eq_some_iff.1 hg).1).trans hg, r⟩
abbrev IsB (B : Nat) (l : List UInt8) (w : World) : Prop := Lib.IsBuilder 71 5 B B (Lib.byteCells l) w
theorem IsB.ext {B : Nat} {l : List UInt8} {w w' : World} (hb : Ext w w') (h : IsB B l w) : IsB B l w' := by
  rcases h with ⟨h1, v, h2, h3, h4⟩ | ⟨h1, v, h2, h3, h4⟩
  · exact Or.inl ⟨h1, v, Ext.blk hb h2, ownsRow_ext hb h3, h4⟩
  · exact Or.inr ⟨h1, v, Ext.blk hb h2, ownsRow_ext hb h3, h4⟩
theorem IsB.lt {B : Nat} {l : List UInt8} {w : World} (h : IsB B l w) : B < w.heap.size := by
  rcases h with ⟨_, v, h2, _⟩ | ⟨_, v, h2, _⟩ <;> exact blk_lt h2
theorem IsB.new (w : World) : IsB w.heap.size [] (w.alloc (.cells #[.pointer none, .slice none 0 0] 71)) :=
  Or.inl ⟨Nat.le_refl _, .slice none 0 0, newblk _ _, World.ownsRow_nil _ _ _ _, by simp [Value.ownBlock]⟩

set_option maxHeartbeats 1000000 in
theorem numbers_any (b : Nat) (w : World) :
    Calls Tryd.prog 30 #[.pointer (some ⟨b, 0, none⟩)] w fun e w' => e = .returned (.agg #[.pointer (some ⟨b, 0, none⟩), .pointer (some ⟨b, 1, none⟩), .pointer (some ⟨b, 2, none⟩)]) ∧ Ext w w' := by
  go_enter Tryd.func30, Tryd.ntmps30
  go_wp2
  go_region
  all_goals
    go_wp2
    refine bodyPost_ret (v := .agg #[.pointer (some ⟨b, 0, none⟩), .pointer (some ⟨b, 1, none⟩), .pointer (some ⟨b, 2, none⟩)]) (by simp [results, Tryd.results30, go_sem]) rfl ⟨rfl, ?_⟩
    exact Ext.drewN (Ext.alloc (Below.refl _ _) _) 1

def pre3 (a b p : Int) : Nat → List UInt8
  | 0 => []
  | 1 => (wCount ++ 61 :: itoaL a) ++ [32]
  | 2 => (wCount ++ 61 :: itoaL a) ++ 32 :: ((wBytes ++ 61 :: itoaL b) ++ [32])
  | _ => (wCount ++ 61 :: itoaL a) ++ 32 :: ((wBytes ++ 61 :: itoaL b) ++ 32 :: ((wProt ++ 61 :: itoaL p) ++ [32]))
theorem pre3_len (a b p : Int) (ha : (itoaL a).length ≤ 20) (hb : (itoaL b).length ≤ 20) (hp : (itoaL p).length ≤ 20) (k : Nat) : (pre3 a b p k).length ≤ 100 := by
  unfold pre3
  split <;> simp [wCount, wBytes, wProt] <;> omega
theorem itoa_len (z : Int) (h0 : -9223372036854775808 ≤ z) (h1 : z ≤ 9223372036854775807) : (itoaL z).length ≤ 20 := by
  unfold itoaL Lib.itoa
  split
  · have := dd_len 18 z.natAbs (by omega)
    simp; omega
  · have := dd_len 18 z.toNat (by omega)
    omega
theorem index_ptr3 (x y z : Value) (w : World) : (Instr.index 56 (.agg #[x, y, z]) (.int .i64 0)).run Tryd.prog w = .ok x w ∧ (Instr.index 56 (.agg #[x, y, z]) (.int .i64 1)).run Tryd.prog w = .ok y w ∧ (Instr.index 56 (.agg #[x, y, z]) (.int .i64 2)).run Tryd.prog w = .ok z w := ⟨by kernel_rfl, by kernel_rfl, by kernel_rfl⟩
def numN (b : Nat) : Value := .agg #[.pointer (some ⟨b, 0, none⟩), .pointer (some ⟨b, 1, none⟩), .pointer (some ⟨b, 2, none⟩)]
def piece (w : List UInt8) (z : Int) : ByteArray := ⟨((w ++ 61 :: itoaL z) ++ [32]).toArray⟩
theorem piece_size (l : List UInt8) (z : Int) (h : l.length ≤ 20) (hz : (itoaL z).length ≤ 20) : (piece l z).size ≤ 100 := by
  show ((l ++ 61 :: itoaL z) ++ [32]).toArray.size ≤ 100
  rw [List.size_toArray]; simp; omega
theorem app3 (w : ByteArray) (l : List UInt8) (z : Int) (h : w = ⟨l.toArray⟩) : w ++ ⟨#[61]⟩ ++ ⟨(itoaL z).toArray⟩ ++ ⟨#[32]⟩ = piece l z := by
  subst h
  unfold piece
  apply ByteArray.ext
  simp [ByteArray.data_append]

set_option maxRecDepth 100000 in
set_option maxHeartbeats 4000000 in
theorem gtext_any (a b p : Int) (s : Nat) (t : Bool) (w : World) (hs : s < 18446744073709551616) (ha : -9223372036854775808 ≤ a ∧ a ≤ 9223372036854775807) (hb : -9223372036854775808 ≤ b ∧ b ≤ 9223372036854775807) (hp : -9223372036854775808 ≤ p ∧ p ≤ 9223372036854775807) (he : EnvG w) :
    Calls Tryd.prog 29 #[.agg #[.int .i64 a, .int .i64 b, .int .i64 p, .int .u64 s, .bool t]] w fun e w' => e = .returned (.string ⟨(textC ⟨a, b, p, s, t⟩).toArray⟩) ∧ Ext w w' := by
  have hN := pre3_len a b p (itoa_len a ha.1 ha.2) (itoa_len b hb.1 hb.2) (itoa_len p hp.1 hp.2)
  have cN : Box _ := ⟨fun w1 => numbers_any w.heap.size w1⟩
  have cI : ∀ z : Int, (-9223372036854775808 ≤ z ∧ z ≤ 9223372036854775807) → Box (∀ w1, Ext w w1 → _) := fun z hz => ⟨fun w1 h => gitoa_any z w1 hz.1 hz.2 (he.env.tabs.ext h)⟩
  have cIa := cI a ha
  have cIb := cI b hb
  have cIp := cI p hp
  have cF : Box (∀ w1, Ext w w1 → _) := ⟨fun w1 h => formatUint_any s w1 hs (he.env.tabs.ext h)⟩
  have hx0 : Ext w ((w.alloc (.cells #[.int .i64 a, .int .i64 b, .int .i64 p, .int .u64 s, .bool t] 24)).alloc (.cells #[.pointer none, .slice none 0 0] 71)) := Ext.alloc (Ext.alloc (Below.refl _ _) _) _
  have hC0 := (Ext.alloc (Below.refl _ (w.alloc (.cells #[.int .i64 a, .int .i64 b, .int .i64 p, .int .u64 s, .bool t] 24))) (.cells #[.pointer none, .slice none 0 0] 71)).block w.heap.size (by simp)
  rw [newblk] at hC0
  have hB0 := IsB.new (w.alloc (.cells #[.int .i64 a, .int .i64 b, .int .i64 p, .int .u64 s, .bool t] 24))
  rw [show (w.alloc (.cells #[.int .i64 a, .int .i64 b, .int .i64 p, .int .u64 s, .bool t] 24)).heap.size = w.heap.size + 1 by simp] at hB0
  obtain ⟨ys, hys⟩ : ∃ ys, Value.agg #[.pointer (some ⟨w.heap.size, 0, none⟩), .pointer (some ⟨w.heap.size, 1, none⟩), .pointer (some ⟨w.heap.size, 2, none⟩)] = .agg ys := ⟨_, rfl⟩
  rw [hys] at cN
  have Hys := Box.mk hys
  clear hys
  have hw1 : 0 < w.heap.size + 1 := Nat.lt_succ_of_lt (lt_of_cell he.word.1)
  go_enter Tryd.func29, Tryd.ntmps29
  go_wp2_with (first
    | (go_at_call 30; (with_reducible refine (cN.out _).mono ?_); rintro e w1 ⟨rfl, hb1⟩; have hx := Ext.trans' hx0 hb1; have hC := Ext.blk hb1 hC0; have hB := IsB.ext hb1 hB0))
  go_loopw [7] (fun i wr => ∃ k : Nat, k ≤ 3 ∧ i = .int .i64 k ∧ IsB (w.heap.size + 1) (pre3 a b p k) wr ∧ wr.heap[w.heap.size]? = some (.cells #[.int .i64 a, .int .i64 b, .int .i64 p, .int .u64 s, .bool t] 24 (0, 0)) ∧ Ext w wr) (fun i _ => 3 - (intOf i).toNat)
  case atStart => exact ⟨0, by omega, rfl, hB, hC, hx⟩
  case round =>
    clear hx hB hC hb1
    obtain ⟨k, hk, rfl, hB, hC, hx⟩ := hrel
    obtain ⟨m0, m1, m2, m3, m4⟩ := blk5 hC
    obtain ⟨v0, v1, v2⟩ := (he.ext hx).word
    have hz := hB.lt
    have hys := Hys.out
    obtain rfl | rfl | rfl | rfl : k = 0 ∨ k = 1 ∨ k = 2 ∨ k = 3 := by omega
    · have ix := fun W => (index_ptr3 (.pointer (some ⟨w.heap.size, 0, none⟩)) (.pointer (some ⟨w.heap.size, 1, none⟩)) (.pointer (some ⟨w.heap.size, 2, none⟩)) W).1
      rw [hys] at ix
      have hpre : Box (pre3 a b p 0 ++ (piece wCount a).data.toList = pre3 a b p 1) := ⟨by simp [pre3, piece]⟩
      have hl := hN 0
      have hps := piece_size wCount a (by decide) (itoa_len a ha.1 ha.2)
      have cW : Box (∀ wr, IsB (w.heap.size + 1) (pre3 a b p 0) wr → w.heap.size + 1 < wr.heap.size → _) := ⟨fun wr h hz => writeString_any (w.heap.size + 1) (w.heap.size + 1) (pre3 a b p 0) (piece wCount a) wr h (by omega) (by omega)⟩
      rw [hpre.out] at cW
      generalize pre3 a b p 0 = q0 at *
      generalize hq : pre3 a b p 1 = q1 at *
      have Hq := Box.mk hq
      clear hq
      have hst : ∀ z0 : ByteArray, z0 = ⟨(itoaL a).toArray⟩ → ⟨wCount.toArray⟩ ++ ⟨#[61]⟩ ++ z0 ++ ⟨#[32]⟩ = piece wCount a := fun z0 h => by rw [h]; exact app3 _ wCount a rfl
      have hst := hst _ rfl
      have hsz : (⟨(itoaL a).toArray⟩ : ByteArray).size ≤ 20 := by show (itoaL a).toArray.size ≤ 20; rw [List.size_toArray]; exact itoa_len a ha.1 ha.2
      have cI := cIa
      generalize (⟨(itoaL a).toArray⟩ : ByteArray) = z0 at *
      obtain ⟨wd, hwd⟩ : ∃ wd : ByteArray, wd = ⟨wCount.toArray⟩ := ⟨_, rfl⟩
      have v : wr.cell? ⟨0, 0, none⟩ = some (.string wd) := by rw [hwd]; exact v0
      have hws : wd.size ≤ 9 := by rw [hwd]; decide
      rw [← hwd] at hst
      have g1 : ¬ 9223372036854775807 < wd.size + 1 := by omega
      have g2 : ¬ 9223372036854775807 < wd.size + 1 + z0.size := by omega
      have g3 : ¬ 9223372036854775807 < wd.size + 1 + z0.size + 1 := by omega
      generalize piece wCount a = pc at *
      have m := m0
      clear hwd v0 v1 v2 m0 m1 m2 m3 m4 cIa cIb cIp cF hN hpre hys
      go_wp2
      go_region_held3 (fun w' => w'.cell? ⟨0, 0, none⟩ = some (.string wd) ∧ w'.cell? ⟨w.heap.size, 0, none⟩ = some (.int .i64 a))
        (first
          | go_keep
          | (exact ⟨v, m⟩))
        (first
          | (go_at_call 36; refine (cI.out _ (Ext.drewN hx 1)).mono ?_; rintro e w1 ⟨rfl, hb1⟩; have hx := Ext.trans' (Ext.drewN hx 1) hb1; have hC := Ext.blk hb1 hC; have hB := IsB.ext hb1 hB; have hz := hB.lt; have v := Ext.cell hb1 v; have m := Ext.cell hb1 m)
          | (go_at_call 35; refine (cW.out _ hB hz).mono ?_; rintro e w2 ⟨rfl, hB, hb2⟩; have hC := (hb2.block w.heap.size (by omega)).trans hC; have hx := Below.trans hx (hb2.mono (Nat.le_succ _)); have v := (hb2.cell (p := ⟨0, _, none⟩) hw1).trans v; have m := (hb2.cell (p := ⟨w.heap.size, _, none⟩) (Nat.lt_succ_self _)).trans m))
      all_goals
        go_wp2
        go_roundw
        case rel => exact ⟨1, by omega, rfl, by rw [Hq.out]; exact hB, hC, hx⟩
        case measure => simp [intOf]
    · have ix := fun W => (index_ptr3 (.pointer (some ⟨w.heap.size, 0, none⟩)) (.pointer (some ⟨w.heap.size, 1, none⟩)) (.pointer (some ⟨w.heap.size, 2, none⟩)) W).2.1
      rw [hys] at ix
      have hpre : Box (pre3 a b p 1 ++ (piece wBytes b).data.toList = pre3 a b p 2) := ⟨by simp [pre3, piece]⟩
      have hl := hN 1
      have hps := piece_size wBytes b (by decide) (itoa_len b hb.1 hb.2)
      have cW : Box (∀ wr, IsB (w.heap.size + 1) (pre3 a b p 1) wr → w.heap.size + 1 < wr.heap.size → _) := ⟨fun wr h hz => writeString_any (w.heap.size + 1) (w.heap.size + 1) (pre3 a b p 1) (piece wBytes b) wr h (by omega) (by omega)⟩
      rw [hpre.out] at cW
      generalize pre3 a b p 1 = q0 at *
      generalize hq : pre3 a b p 2 = q1 at *
      have Hq := Box.mk hq
      clear hq
      have hst : ∀ z0 : ByteArray, z0 = ⟨(itoaL b).toArray⟩ → ⟨wBytes.toArray⟩ ++ ⟨#[61]⟩ ++ z0 ++ ⟨#[32]⟩ = piece wBytes b := fun z0 h => by rw [h]; exact app3 _ wBytes b rfl
      have hst := hst _ rfl
      have hsz : (⟨(itoaL b).toArray⟩ : ByteArray).size ≤ 20 := by show (itoaL b).toArray.size ≤ 20; rw [List.size_toArray]; exact itoa_len b hb.1 hb.2
      have cI := cIb
      generalize (⟨(itoaL b).toArray⟩ : ByteArray) = z0 at *
      obtain ⟨wd, hwd⟩ : ∃ wd : ByteArray, wd = ⟨wBytes.toArray⟩ := ⟨_, rfl⟩
      have v : wr.cell? ⟨0, 1, none⟩ = some (.string wd) := by rw [hwd]; exact v1
      have hws : wd.size ≤ 9 := by rw [hwd]; decide
      rw [← hwd] at hst
      have g1 : ¬ 9223372036854775807 < wd.size + 1 := by omega
      have g2 : ¬ 9223372036854775807 < wd.size + 1 + z0.size := by omega
      have g3 : ¬ 9223372036854775807 < wd.size + 1 + z0.size + 1 := by omega
      generalize piece wBytes b = pc at *
      have m := m1
      clear hwd v0 v1 v2 m0 m1 m2 m3 m4 cIa cIb cIp cF hN hpre hys
      go_wp2
      go_region_held3 (fun w' => w'.cell? ⟨0, 1, none⟩ = some (.string wd) ∧ w'.cell? ⟨w.heap.size, 1, none⟩ = some (.int .i64 b))
        (first
          | go_keep
          | (exact ⟨v, m⟩))
        (first
          | (go_at_call 36; refine (cI.out _ (Ext.drewN hx 1)).mono ?_; rintro e w1 ⟨rfl, hb1⟩; have hx := Ext.trans' (Ext.drewN hx 1) hb1; have hC := Ext.blk hb1 hC; have hB := IsB.ext hb1 hB; have hz := hB.lt; have v := Ext.cell hb1 v; have m := Ext.cell hb1 m)
          | (go_at_call 35; refine (cW.out _ hB hz).mono ?_; rintro e w2 ⟨rfl, hB, hb2⟩; have hC := (hb2.block w.heap.size (by omega)).trans hC; have hx := Below.trans hx (hb2.mono (Nat.le_succ _)); have v := (hb2.cell (p := ⟨0, _, none⟩) hw1).trans v; have m := (hb2.cell (p := ⟨w.heap.size, _, none⟩) (Nat.lt_succ_self _)).trans m))
      all_goals
        go_wp2
        go_roundw
        case rel => exact ⟨2, by omega, rfl, by rw [Hq.out]; exact hB, hC, hx⟩
        case measure => simp [intOf]
    · have ix := fun W => (index_ptr3 (.pointer (some ⟨w.heap.size, 0, none⟩)) (.pointer (some ⟨w.heap.size, 1, none⟩)) (.pointer (some ⟨w.heap.size, 2, none⟩)) W).2.2
      rw [hys] at ix
      have hpre : Box (pre3 a b p 2 ++ (piece wProt p).data.toList = pre3 a b p 3) := ⟨by simp [pre3, piece]⟩
      have hl := hN 2
      have hps := piece_size wProt p (by decide) (itoa_len p hp.1 hp.2)
      have cW : Box (∀ wr, IsB (w.heap.size + 1) (pre3 a b p 2) wr → w.heap.size + 1 < wr.heap.size → _) := ⟨fun wr h hz => writeString_any (w.heap.size + 1) (w.heap.size + 1) (pre3 a b p 2) (piece wProt p) wr h (by omega) (by omega)⟩
      rw [hpre.out] at cW
      generalize pre3 a b p 2 = q0 at *
      generalize hq : pre3 a b p 3 = q1 at *
      have Hq := Box.mk hq
      clear hq
      have hst : ∀ z0 : ByteArray, z0 = ⟨(itoaL p).toArray⟩ → ⟨wProt.toArray⟩ ++ ⟨#[61]⟩ ++ z0 ++ ⟨#[32]⟩ = piece wProt p := fun z0 h => by rw [h]; exact app3 _ wProt p rfl
      have hst := hst _ rfl
      have hsz : (⟨(itoaL p).toArray⟩ : ByteArray).size ≤ 20 := by show (itoaL p).toArray.size ≤ 20; rw [List.size_toArray]; exact itoa_len p hp.1 hp.2
      have cI := cIp
      generalize (⟨(itoaL p).toArray⟩ : ByteArray) = z0 at *
      obtain ⟨wd, hwd⟩ : ∃ wd : ByteArray, wd = ⟨wProt.toArray⟩ := ⟨_, rfl⟩
      have v : wr.cell? ⟨0, 2, none⟩ = some (.string wd) := by rw [hwd]; exact v2
      have hws : wd.size ≤ 9 := by rw [hwd]; decide
      rw [← hwd] at hst
      have g1 : ¬ 9223372036854775807 < wd.size + 1 := by omega
      have g2 : ¬ 9223372036854775807 < wd.size + 1 + z0.size := by omega
      have g3 : ¬ 9223372036854775807 < wd.size + 1 + z0.size + 1 := by omega
      generalize piece wProt p = pc at *
      have m := m2
      clear hwd v0 v1 v2 m0 m1 m2 m3 m4 cIa cIb cIp cF hN hpre hys
      go_wp2
      go_region_held3 (fun w' => w'.cell? ⟨0, 2, none⟩ = some (.string wd) ∧ w'.cell? ⟨w.heap.size, 2, none⟩ = some (.int .i64 p))
        (first
          | go_keep
          | (exact ⟨v, m⟩))
        (first
          | (go_at_call 36; refine (cI.out _ (Ext.drewN hx 1)).mono ?_; rintro e w1 ⟨rfl, hb1⟩; have hx := Ext.trans' (Ext.drewN hx 1) hb1; have hC := Ext.blk hb1 hC; have hB := IsB.ext hb1 hB; have hz := hB.lt; have v := Ext.cell hb1 v; have m := Ext.cell hb1 m)
          | (go_at_call 35; refine (cW.out _ hB hz).mono ?_; rintro e w2 ⟨rfl, hB, hb2⟩; have hC := (hb2.block w.heap.size (by omega)).trans hC; have hx := Below.trans hx (hb2.mono (Nat.le_succ _)); have v := (hb2.cell (p := ⟨0, _, none⟩) hw1).trans v; have m := (hb2.cell (p := ⟨w.heap.size, _, none⟩) (Nat.lt_succ_self _)).trans m))
      all_goals
        go_wp2
        go_roundw
        case rel => exact ⟨3, by omega, rfl, by rw [Hq.out]; exact hB, hC, hx⟩
        case measure => simp [intOf]
    · have hl := hN 3
      have hds := digs_size s hs
      have cW : Box (∀ wr, IsB (w.heap.size + 1) (pre3 a b p 3) wr → w.heap.size + 1 < wr.heap.size → _) := ⟨fun wr h hz => writeString_any (w.heap.size + 1) (w.heap.size + 1) (pre3 a b p 3) (⟨#[115, 101, 101, 100, 61]⟩ ++ digs s) wr h (by rw [ByteArray.size_append, show (⟨#[115, 101, 101, 100, 61]⟩ : ByteArray).size = 5 from rfl]; omega) (by omega)⟩
      have hfin : Box (∀ t : Bool, (⟨(pre3 a b p 3 ++ (⟨#[115, 101, 101, 100, 61]⟩ ++ digs s : ByteArray).data.toList).toArray⟩ : ByteArray) ++ (if t then ⟨#[32, 115, 97, 109, 101, 61, 121, 101, 115]⟩ else ⟨#[32, 115, 97, 109, 101, 61, 110, 111]⟩) = ⟨(textC ⟨a, b, p, s, t⟩).toArray⟩) := ⟨fun t => by
        apply ByteArray.ext
        apply Array.ext'
        cases t <;> simp [ByteArray.data_append, pre3, textC, digs, wSeed, wSame, wYes, wNo]⟩
      have hlen : (pre3 a b p 3 ++ (⟨#[115, 101, 101, 100, 61]⟩ ++ digs s : ByteArray).data.toList).length ≤ 200 := by
        rw [List.length_append]
        have : (⟨#[115, 101, 101, 100, 61]⟩ ++ digs s : ByteArray).data.toList.length = 5 + (digs s).size := by
          rw [show (⟨#[115, 101, 101, 100, 61]⟩ ++ digs s : ByteArray).data.toList.length = (⟨#[115, 101, 101, 100, 61]⟩ ++ digs s : ByteArray).size from rfl, ByteArray.size_append]; rfl
        omega
      generalize pre3 a b p 3 ++ (⟨#[115, 101, 101, 100, 61]⟩ ++ digs s : ByteArray).data.toList = q1 at *
      generalize pre3 a b p 3 = q0 at *
      generalize digs s = zs at *
      have cS : Box (∀ wr, IsB (w.heap.size + 1) q1 wr → w.heap.size + 1 < wr.heap.size → _) := ⟨fun wr h hz => Tryd.Builder_String_any (w.heap.size + 1) (w.heap.size + 1) q1 wr h (by omega)⟩
      have hq1 : (⟨q1.toArray⟩ : ByteArray).size ≤ 200 := by show q1.toArray.size ≤ 200; rw [List.size_toArray]; exact hlen
      generalize (⟨q1.toArray⟩ : ByteArray) = zq at *
      have g1 : ¬ 9223372036854775807 < 5 + zs.size := by omega
      have g2 : ¬ 9223372036854775807 < zq.size + 9 := by omega
      have g3 : ¬ 9223372036854775807 < zq.size + 8 := by omega
      clear v0 v1 v2 cIa cIb cIp hN hys hs ha hb hp m0 m1 m2 he hw1 hl hds hlen cN cI
      have hfin := Box.mk (hfin.out t)
      cases t
      all_goals
        go_wp2_with (first
          | (go_at_call 37; (with_reducible refine (cF.out _ hx).mono ?_); rintro e w1 ⟨rfl, hb1⟩; have hx := Ext.trans' hx hb1; have hC := Ext.blk hb1 hC; have hB := IsB.ext hb1 hB; have hz := hB.lt; have m4 := Ext.cell hb1 m4)
          | (go_at_call 35; (with_reducible refine (cW.out _ hB hz).mono ?_); rintro e w2 ⟨rfl, hB, hb2⟩; have hx := Below.trans hx (hb2.mono (Nat.le_succ _)); have m4 := (hb2.cell (p := ⟨w.heap.size, _, none⟩) (Nat.lt_succ_self _)).trans m4; have hz := IsB.lt hB)
          | (go_at_call 38; (with_reducible refine (cS.out _ hB hz).mono ?_); rintro e w3 ⟨rfl, hb3⟩; have hx := Below.trans hx (hb3.mono (Nat.le_succ _))))
        go_ret
        exact ⟨by rw [← hfin.out]; rfl, hx⟩
end Go.Proofs.YtpojemlnhbdfmaaDoor
