import Derived.Test.YthlnhemdhlkhfaaDoorD4
import Derived.RegionTactic
/- Lists of keys: the reference's Make, Same, Ints. -/
namespace Go.Proofs.YthlnhemdhlkhfaaDoor
open Go.RowKit

theorem newblk (w : World) (o : Obj) : (w.alloc o).heap[w.heap.size]? = some o := by
  show (w.heap.push o)[w.heap.size]? = some o
  simp
theorem Ext.blk {W w1 : World} (hb : Ext W w1) {B : Nat} {o : Obj} (h : W.heap[B]? = some o) : w1.heap[B]? = some o :=
  (hb.block B (Array.getElem?_eq_some_iff.1 h).1).trans h
theorem blk_lt {w : World} {B : Nat} {o : Obj} (h : w.heap[B]? = some o) : B < w.heap.size := (Array.getElem?_eq_some_iff.1 h).1
theorem blk5 {w : World} {B : Nat} {c0 c1 c2 c3 c4 : Value} {T : TypeId} (h : w.heap[B]? = some (.cells #[c0, c1, c2, c3, c4] T (0, 0))) :
    w.cell? ⟨B, 0, none⟩ = some c0 ∧ w.cell? ⟨B, 1, none⟩ = some c1 ∧ w.cell? ⟨B, 2, none⟩ = some c2 ∧ w.cell? ⟨B, 3, none⟩ = some c3 ∧ w.cell? ⟨B, 4, none⟩ = some c4 :=
  ⟨by rw [Lib.cell_of_heap h]; rfl, by rw [Lib.cell_of_heap h]; rfl, by rw [Lib.cell_of_heap h]; rfl, by rw [Lib.cell_of_heap h]; rfl, by rw [Lib.cell_of_heap h]; rfl⟩
theorem ownsRow_ext {w w' : World} (hb : Ext w w') {base : Nat} {e : TypeId} {size : Nat} {v : Value} {n : Nat} {xs : List Value} (h : w.ownsRow base e size v n xs) : w'.ownsRow base e size v n xs := by
  refine ⟨h.1, ?_⟩
  rcases h.2 with h2 | ⟨g, cap, cur, hv, hb1, hg, r⟩
  · exact Or.inl h2
  · exact Or.inr ⟨g, cap, cur, hv, hb1, (hb.block g (Array.getElem?_eq_some_iff.1 hg).1).trans hg, r⟩

/-- Equal lists. -/
def u32s (f : Nat → Nat) (n : Nat) : List Value := (List.range n).map fun i => .int .u32 (f i)
def i64s (f : Nat → Nat) (n : Nat) : List Value := (List.range n).map fun i => .int .i64 (f i)
theorem u32s_at (f : Nat → Nat) {n i : Nat} (h : i < n) : (u32s f n)[i]? = some (.int .u32 (f i)) := by simp [u32s, h]
theorem i64s_at (f : Nat → Nat) {n i : Nat} (h : i < n) : (i64s f n)[i]? = some (.int .i64 (f i)) := by simp [i64s, h]
theorem u32s_succ (f : Nat → Nat) (n : Nat) : u32s f (n + 1) = u32s f n ++ [.int .u32 (f n)] := by simp [u32s, List.range_succ]
theorem i64s_succ (f : Nat → Nat) (n : Nat) : i64s f (n + 1) = i64s f n ++ [.int .i64 (f n)] := by simp [i64s, List.range_succ]
set_option maxHeartbeats 1000000 in
theorem same_any (u v : Value) (n : Nat) (f : Nat → Nat) (w : World) (hu : Sl w u n (u32s f n)) (hv : Sl w v n (u32s f n)) :
    Calls Tryd.prog 14 #[u, v] w fun e w' => e = .returned (.bool true) ∧ Ext w w' := by
  obtain ⟨a, c, rfl, hl1, hnc, hc⟩ := hu
  obtain ⟨b, d, rfl, hl2, hmd, hd⟩ := hv
  have Hc : Box _ := ⟨hc⟩
  have Hd : Box _ := ⟨hd⟩
  clear hc hd
  go_enter Tryd.func14, Tryd.ntmps14
  go_wp2
  go_loopw [5] (fun i wr => ∃ k : Nat, k ≤ n ∧ i = .int .i64 k ∧ ∃ q, wr = w.drewN q) (fun i _ => n - (intOf i).toNat)
  case atStart => exact ⟨0, by omega, rfl, 0, rfl⟩
  case round =>
    obtain ⟨k, hk, rfl, q, rfl⟩ := hrel
    by_cases hkn : k < n
    · obtain ⟨b1, o1, rfl, hcell1⟩ := Hc.out k _ (u32s_at f hkn)
      obtain ⟨b2, o2, rfl, hcell2⟩ := Hd.out k _ (u32s_at f hkn)
      generalize f k = x at *
      go_wp2
      go_quiet (fail)
      go_wp2
      go_roundw
      case rel => exact ⟨k + 1, by omega, by go_num, _, rfl⟩
      case measure => simp [intOf]; omega
    · obtain rfl : k = n := by omega
      go_wp2
      go_ret
      exact ⟨rfl, Ext.drewN (Below.refl _ _) _⟩
set_option maxHeartbeats 1000000 in
theorem ints_any (u v : Value) (n : Nat) (f : Nat → Nat) (w : World) (hu : Sl w u n (i64s f n)) (hv : Sl w v n (i64s f n)) :
    Calls Tryd.prog 18 #[u, v] w fun e w' => e = .returned (.bool true) ∧ Ext w w' := by
  obtain ⟨a, c, rfl, hl1, hnc, hc⟩ := hu
  obtain ⟨b, d, rfl, hl2, hmd, hd⟩ := hv
  have Hc : Box _ := ⟨hc⟩
  have Hd : Box _ := ⟨hd⟩
  clear hc hd
  go_enter Tryd.func18, Tryd.ntmps18
  go_wp2
  go_loopw [5] (fun i wr => ∃ k : Nat, k ≤ n ∧ i = .int .i64 k ∧ ∃ q, wr = w.drewN q) (fun i _ => n - (intOf i).toNat)
  case atStart => exact ⟨0, by omega, rfl, 0, rfl⟩
  case round =>
    obtain ⟨k, hk, rfl, q, rfl⟩ := hrel
    by_cases hkn : k < n
    · obtain ⟨b1, o1, rfl, hcell1⟩ := Hc.out k _ (i64s_at f hkn)
      obtain ⟨b2, o2, rfl, hcell2⟩ := Hd.out k _ (i64s_at f hkn)
      generalize f k = x at *
      go_wp2
      go_quiet (fail)
      go_wp2
      go_roundw
      case rel => exact ⟨k + 1, by omega, by go_num, _, rfl⟩
      case measure => simp [intOf]; omega
    · obtain rfl : k = n := by omega
      go_wp2
      go_ret
      exact ⟨rfl, Ext.drewN (Below.refl _ _) _⟩
theorem infoU32 : (Tryd.prog.info? 56).map (fun i => (i.zero, i.size, i.bytes)) = some (some (.int .u32 0), 1, 4) := by kernel_rfl
theorem keyL_lt {k a r p s : Nat} (V : Vld k a r p s) {i : Nat} (hi : i < r) : keyL k a r p s i < a := by
  have h1 := V.s64; have h2 := V.a1; have h3 := V.a2; have h4 := V.r2
  rcases V.k6 with ⟨rfl, h⟩ | ⟨rfl, h⟩ | ⟨rfl, h⟩ | ⟨rfl, h⟩ | ⟨rfl, h⟩ | ⟨rfl, h⟩
  · exact Nat.mod_lt _ (by omega)
  · show i < a; omega
  · exact smallL_lt _ _ _ _ (by omega) (by decide)
  · exact smallL_lt _ _ _ _ (by omega) (by omega)
  · show i * p / r * (a / p) + smallL s (a / p) i 1 < a
    have hw : 0 < a / p := Nat.div_pos h.2.2 (by omega)
    have hl := smallL_lt s (a / p) i 1 hw (by decide)
    have hq : i * p / r + 1 ≤ p := by
      apply Nat.succ_le_of_lt
      apply Nat.div_lt_of_lt_mul
      exact Nat.mul_lt_mul_of_pos_right hi (by omega)
    have hm : (i * p / r + 1) * (a / p) ≤ p * (a / p) := Nat.mul_le_mul_right _ hq
    have hn : p * (a / p) ≤ a := Nat.mul_div_le a p
    rw [Nat.add_mul] at hm
    omega
  · show (if i / p % 2 = 0 then smallL s (a / 2) (2 * i) 2 else a / 2 + (i / p / 2 * p + i % p) % (a - a / 2)) < a
    split
    · have := smallL_le s (a / 2) (2 * i) 2; omega
    · have := Nat.mod_lt (i / p / 2 * p + i % p) (show a - a / 2 > 0 by omega); omega
set_option maxRecDepth 100000 in
set_option maxHeartbeats 4000000 in
theorem refMake_any {k a r p s : Nat} (V : Vld k a r p s) (w : World) : Calls Tryd.prog 15 #[(.agg #[.int .i64 (k), .int .i64 (a), .int .i64 (r), .int .i64 (p), .int .u64 (s)])] w fun e w' => ∃ v, e = .returned v ∧ Sl w' v r (u32s (keyL k a r p s) r) ∧ Ext w w' := by
  obtain ⟨i0, hi, hz0, hz1, hz2⟩ := info_parts infoU32
  have hr := V.r2
  have ha := V.a2
  have hV := Box.mk V
  have h0 : Ext w (w.alloc (.cells #[.int .i64 (k), .int .i64 (a), .int .i64 (r), .int .i64 (p), .int .u64 (s)] 28)) := Ext.alloc (Below.refl _ _) _
  have hB := newblk w (.cells #[.int .i64 (k), .int .i64 (a), .int .i64 (r), .int .i64 (p), .int .u64 (s)] 28)
  have hsz : (w.alloc (.cells #[.int .i64 (k), .int .i64 (a), .int .i64 (r), .int .i64 (p), .int .u64 (s)] 28)).heap.size = w.heap.size + 1 := by simp
  obtain ⟨B, hBe⟩ : ∃ B, B = w.heap.size := ⟨_, rfl⟩
  rw [← hBe] at hB hsz
  have H0 := Box.mk h0
  have HB := Box.mk hB
  have Hs := Box.mk hsz
  clear h0 hB hsz V
  go_enter Tryd.func15, Tryd.ntmps15
  go_wp2
  rw [← hBe]
  clear hBe
  generalize w.alloc (.cells #[.int .i64 (k), .int .i64 (a), .int .i64 (r), .int .i64 (p), .int .u64 (s)] 28) = W at *
  go_loopw [3, 4] (fun v i wr => ∃ t : Nat, t ≤ r ∧ i = .int .i64 t ∧ Box (wr.ownsRow W.heap.size 56 1 v t (u32s (keyL k a r p s) t)) ∧ Ext W wr) (fun _ i _ => r - (intOf i).toNat)
  case atStart => exact ⟨0, by omega, rfl, ⟨World.ownsRow_nil _ _ _ _⟩, Below.refl _ _⟩
  case round =>
    obtain ⟨t, ht, rfl, hown, hx⟩ := hrel
    have hB := Ext.blk hx HB.out
    obtain ⟨m0, m1, m2, m3, m4⟩ := blk5 hB
    by_cases htr : t < r
    · have c1 : Box _ := ⟨refKey_any hV.out t htr⟩
      have hk := keyL_lt hV.out htr
      have hsn := Box.mk (u32s_succ (keyL k a r p s) t)
      generalize keyL k a r p s t = q at *
      have u1 : IntKind.u32.wrap (q : Int) = q := by rw [IntKind.wrap_u32]; omega
      go_wp2_with (first | (go_at_call 28; (with_reducible refine (c1.out _).mono ?_); rintro e w1 ⟨rfl, hb⟩; have hx := Ext.trans' hx hb; have hown := Box.mk (ownsRow_ext hb hown.out); have hW := hx.size) | (at_builtin; refine wpList_push rfl _ _ 30 rfl W.heap.size 56 i0 (.int .u32 0) 1 4 Tryd.underlying30 hi hz0 hz1 hz2 rfl (by decide) _ _ _ rfl hown.out [.int .u32 q] rfl rfl (by simp [Value.oneCell']) (by omega) (by omega) hW ?_; intro v1 w2 hown2 hg2 hbel2 hs2))
      rw [← hsn.out] at hown2
      have hx2 : Ext W w2 := Below.trans hx hbel2
      clear hbel2 hg2
      go_roundw
      case rel => exact ⟨t + 1, by omega, by go_num, ⟨hown2⟩, hx2⟩
      case measure => simp [intOf]; omega
    · obtain rfl : t = r := by omega
      go_wp2
      go_ret
      exact ⟨_, rfl, Sl.owns hown.out (by omega), Ext.trans' H0.out hx⟩
end Go.Proofs.YthlnhemdhlkhfaaDoor
