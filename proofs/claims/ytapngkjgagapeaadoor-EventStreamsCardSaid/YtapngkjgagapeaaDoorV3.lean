import Derived.Test.YtapngkjgagapeaaDoorV2
import Derived.Test.YtapngkjgagapeaaDoorE6
import Derived.Test.YtapngkjgagapeaaDoorE11
import Derived.Deep.RegionWith
import Derived.Deep.AppendLies
/- The reference's decimals, times and digits of bytes. -/
namespace Go.Proofs.YtapngkjgagapeaaDoor
open Go.RowKit

theorem u8_str : Tryd.prog.underlying 24 = some (.slice 5) ∧ Tryd.prog.underlying 5 = some (.int .u8) ∧ Tryd.prog.underlying 9 = some .string := ⟨Tryd.underlying24, Tryd.underlying5, Tryd.underlying9⟩
/-- string([]byte{c}), c a digit. -/
theorem conv1 (W : World) (B m : Nat) (hm : m < 10) (h : W.cell? ⟨B, 0, none⟩ = some (.int .u8 (48 + (m : Int)))) :
    (convert 24 9 (.slice (some ⟨B, 0, none⟩) 1 1)).run Tryd.prog W = .ok (.string ⟨#[UInt8.ofNat (48 + m)]⟩) W := by
  refine run_convert_bytes_back W _ _ _ ⟨B, 0, none⟩ 1 [UInt8.ofNat (48 + m)] u8_str.1 u8_str.2.1 u8_str.2.2 ?_
  intro j hj
  have hj0 : j = 0 := by simp at hj; omega
  subst hj0
  show W.cell? ⟨B, 0, none⟩ = _
  rw [h]
  have e : ((UInt8.ofNat (48 + m)).toNat : Int) = 48 + (m : Int) := by
    rw [UInt8.toNat_ofNat', Nat.mod_eq_of_lt (by omega)]; omega
  show _ = some (Value.int .u8 ((UInt8.ofNat (48 + m)).toNat : Int))
  rw [e]
set_option maxHeartbeats 1000000 in
theorem decimal_one (n : Nat) (w : World) (h : n < 10) : Calls Tryd.prog 50 #[.int .u64 n] w fun e w' => e = .returned (.string (digs n)) ∧ Ext w w' := by
  rw [digs_one n h]
  have hd : decide ((n : Int) < 10) = true := decide_eq_true (by omega)
  have h0 : (n : Int) < 10 := by omega
  have e2 : IntKind.u8.wrap (48 + (n : Int)) = 48 + (n : Int) := by rw [IntKind.wrap_u8]; omega
  have hcv := conv1 (w.alloc (.cells #[.int .u8 (48 + (n : Int))] 5)) w.heap.size n h (by go_simp)
  generalize (⟨#[UInt8.ofNat (48 + n)]⟩ : ByteArray) = y at *
  go_enter Tryd.func50, Tryd.ntmps50
  go_wp2
  go_ret
  exact ⟨rfl, Ext.alloc (Below.refl _ _) _⟩

theorem dig_digs (m : Nat) (h : m < 10) : digs m = ⟨#[UInt8.ofNat (48 + m)]⟩ := digs_one m h
theorem Ext.drew1 {a w : World} (h : Ext a w) : Ext a w.drew := Ext.drewN h 1
theorem one_kept {w w' : World} {v : Value} {t : TypeId} (hb : Ext (w.alloc (.cells #[v] t)).drew w') : w'.cell? ⟨w.heap.size, 0, none⟩ = some v :=
  Ext.cell hb (by go_simp)
set_option maxRecDepth 100000 in
set_option maxHeartbeats 2000000 in
theorem decimal_k (k : Nat) : ∀ (n : Nat) (w : World), n < 10 ^ (k + 1) → n < 18446744073709551616 → Calls Tryd.prog 50 #[.int .u64 n] w fun e w' => e = .returned (.string (digs n)) ∧ Ext w w' := by
  induction k with
  | zero => intro n w h _; exact decimal_one n w (by simpa using h)
  | succ k ih =>
    intro n w h h2
    by_cases h10 : n < 10
    · exact decimal_one n w h10
    · have c1 : Box _ := ⟨fun w => ih (n / 10) w (by rw [Nat.pow_succ] at h; omega) (by omega)⟩
      rw [digs_ten n (by omega)]
      have hx := digs_size (n / 10) (by omega)
      have hy : (digs (n % 10)).size = 1 := by rw [digs_one _ (by omega)]; rfl
      have ey := digs_one (n % 10) (by omega)
      simp only [Int.natCast_ediv, Int.cast_ofNat_Int] at c1
      have hd : decide ((n : Int) < 10) = false := decide_eq_false (by omega)
      obtain ⟨m, hm⟩ : ∃ m : Nat, m = n % 10 := ⟨_, rfl⟩
      rw [← hm] at ey
      rw [← hm, ey]
      have hm2 : ((n : Int).tmod 10) = (m : Int) := by rw [Int.tmod_eq_emod_of_nonneg (by omega)]; omega
      have hm3 : ((n : Int) % 10) = (m : Int) := by omega
      have hd2 : ((n : Int).tdiv 10) = (n : Int) / 10 := Int.tdiv_eq_ediv_of_nonneg (by omega)
      have hlt : m < 10 := by omega
      have e1 : IntKind.u64.wrap (48 + (m : Int)) = 48 + (m : Int) := by rw [IntKind.wrap_u64]; omega
      have e2 : IntKind.u8.wrap (48 + (m : Int)) = 48 + (m : Int) := by rw [IntKind.wrap_u8]; omega
      have e4 : IntKind.u64.wrap ((n : Int) / 10) = (n : Int) / 10 := by rw [IntKind.wrap_u64]; omega
      have hcv : ∀ W B, W.cell? ⟨B, 0, none⟩ = some (.int .u8 (48 + (m : Int))) → (convert 24 9 (.slice (some ⟨B, 0, none⟩) 1 1)).run Tryd.prog W = .ok (.string ⟨#[UInt8.ofNat (48 + m)]⟩) W := fun W B h => conv1 W B m hlt h
      have hs : ((⟨#[UInt8.ofNat (48 + m)]⟩ : ByteArray).size) = 1 := rfl
      generalize (⟨#[UInt8.ofNat (48 + m)]⟩ : ByteArray) = y at *
      generalize digs (n / 10) = x at *
      clear ih h hm hy ey h10
      go_enter Tryd.func50, Tryd.ntmps50
      go_wp2
      go_region_with ((go_at_call 50; (with_reducible refine (c1.out _).mono ?_); rintro e w' ⟨rfl, hb⟩; (try have hcl := one_kept hb)))
      all_goals
        go_wp2
        go_ret
        refine ⟨rfl, ?_⟩
        first
          | exact Ext.trans' (Ext.drew1 (Ext.alloc (Below.refl _ _) _)) hb
          | exact Ext.alloc (Ext.trans' (Ext.drew1 (Below.refl _ _)) hb) _
theorem decimal_any (n : Nat) (w : World) (h : n < 18446744073709551616) : Calls Tryd.prog 50 #[.int .u64 n] w fun e w' => e = .returned (.string (digs n)) ∧ Ext w w' :=
  decimal_k 19 n w (by omega) h
set_option maxHeartbeats 1000000 in
theorem rtime_any (n : Nat) (w : World) (hn : n < 18446744073709551616) :
    Calls Tryd.prog 49 #[.int .u64 n] w fun e w' => e = .returned (.string (txt n)) ∧ Ext w w' := by
  by_cases h : n = never
  · subst h
    have ht : txt never = ⟨#[110, 101, 118, 101, 114]⟩ := by unfold txt txtL; rw [if_pos rfl]; rfl
    rw [ht]
    unfold never
    go_enter Tryd.func49, Tryd.ntmps49
    go_wp2
    go_ret
    exact ⟨rfl, Below.refl _ _⟩
  · have c1 : Box _ := ⟨fun w => decimal_any n w hn⟩
    have ht : txt n = digs n := by unfold txt txtL; rw [if_neg h]; rfl
    rw [ht]
    unfold never at h
    have e1 : ((n : Int) == 18446744073709551615) = false := by rw [beq_eq_false_iff_ne]; omega
    generalize digs n = y at *
    clear h hn
    have hx : Ext w w := Below.refl _ _
    go_enter Tryd.func49, Tryd.ntmps49
    go_wp2_with (first | (go_at_call 50; (with_reducible refine (c1.out _).mono ?_); rintro e w1 ⟨rfl, hb⟩; have hx := Ext.trans' hx hb))
    go_ret
    exact ⟨rfl, hx⟩
set_option maxRecDepth 100000 in
set_option maxHeartbeats 4000000 in
theorem rhex_any (s : ByteArray) (w : World) (hs : s.size ≤ 100000) :
    Calls Tryd.prog 51 #[.string s] w fun e w' => e = .returned (.string ⟨(hexL s.data.toList).toArray⟩) ∧ Ext w w' := by
  obtain ⟨l, hl0⟩ : ∃ l, l = s.data.toList := ⟨_, rfl⟩
  have hsl : l.length = s.size := by rw [hl0]; rfl
  rw [← hl0]
  by_cases h0 : l.length = 0
  · obtain rfl : l = [] := List.eq_nil_of_length_eq_zero h0
    obtain rfl := str_empty s (by rw [← hsl]; rfl)
    clear hl0 hsl
    go_enter Tryd.func51, Tryd.ntmps51
    go_wp2
    go_ret
    exact ⟨rfl, Below.refl _ _⟩
  · have hl : hexL l = hexP l := by unfold hexL; rw [if_neg (fun e => h0 (by rw [e]; rfl))]
    rw [hl]
    have e1 : ((s.size : Int) == 0) = false := by rw [beq_eq_false_iff_ne]; omega
    have HE := Box.mk e1
    have HS := Box.mk hl0
    obtain ⟨i0, hi, hz0, hz1, hz2⟩ := info_parts infoByte
    clear h0 hl hl0
    go_enter Tryd.func51, Tryd.ntmps51
    go_wp2
    go_loopw [3, 4] (fun v i wr => ∃ k : Nat, k ≤ l.length ∧ i = .int .i64 k ∧ wr.ownsRow w.heap.size 5 1 v (2 * k) ((nums (hexP (l.take k))).map (Value.int .u8)) ∧ Ext w wr) (fun _ i _ => l.length - (intOf i).toNat)
    case atStart => exact ⟨0, by omega, rfl, World.ownsRow_nil _ _ _ _, Below.refl _ _⟩
    case round =>
      obtain ⟨k, hk, rfl, hown, hx⟩ := hrel
      have hsz := hx.size
      by_cases hlt : k < l.length
      · have hb : l[k].toNat < 256 := l[k].toNat_lt
        have q1 : l[k].toNat / 16 < hexS.size := by show _ < 16; omega
        have q2 : l[k].toNat % 16 < hexS.size := by show _ < 16; omega
        have hks : k < s.size := by omega
        have hix : (Instr.index 9 (.string s) (.int .i64 (k : Int))).run Tryd.prog wr = .ok (.int .u8 (l[k].toNat : Int)) wr := by
          have := index_at s k hks wr
          rw [this]
          have e9 : l[k] = s[k] := by simp only [HS.out]; rfl
          rw [e9]
        have hixA : Box (∀ w, (Instr.index 9 (.string s) (.int .i64 (k : Int))).run Tryd.prog w = .ok (.int .u8 (l[k].toNat : Int)) w) := ⟨fun w => by
          have := index_at s k hks w
          rw [this]
          have e9 : l[k] = s[k] := by simp only [HS.out]; rfl
          rw [e9]⟩
        have hcells : Box ((nums (hexP (l.take k))).map (Value.int .u8) ++ [.int .u8 ((hexS[l[k].toNat / 16]'q1).toNat : Int), .int .u8 ((hexS[l[k].toNat % 16]'q2).toNat : Int)] = (nums (hexP (l.take (k + 1)))).map (Value.int .u8)) := ⟨by
          rw [numsV_hex (l.take k) l[k] _ _ (hexS_at _ (by omega) _) (hexS_at _ (by omega) _), List.take_succ_eq_append_getElem hlt]⟩
        clear hix
        have hix := hixA.out
        have hgl : s[k].toNat = l[k].toNat := by simp only [HS.out]; rfl
        generalize l[k].toNat = b at *
        generalize (nums (hexP (l.take k))).map (Value.int .u8) = cs at *
        have n3 : (0 : Int) ≤ (b : Int) / 16 := by omega
        have n4 : (b : Int) / 16 < 16 := by omega
        have n5 : (0 : Int) ≤ (b : Int) % 16 := by omega
        have n6 : (b : Int) % 16 < 16 := by omega
        have t3 : ((b : Int) / 16).toNat = b / 16 := by omega
        have t4 : ((b : Int) % 16).toNat = b % 16 := by omega
        have t5 : IntKind.u8.wrap ((b : Int) / 16) = (b : Int) / 16 := by rw [IntKind.wrap_u8]; omega
        have t6 : IntKind.u8.wrap ((b : Int) % 16) = (b : Int) % 16 := by rw [IntKind.wrap_u8]; omega
        have t1 : (b : Int).tdiv 16 = (b : Int) / 16 := rfl
        have t2 : (b : Int).tmod 16 = (b : Int) % 16 := rfl
        have n1 : (0 : Int) ≤ (k : Int) := by omega
        have n2 : (k : Int) < (s.size : Int) := by omega
        go_wp2_with fail
        go_region_held3 (fun _ => True)
          (first
            | trivial
            | go_keep)
          ((refine step_append_lies _ (by rfl) _ _ _ (by rfl) w.heap.size 5 i0 _ 1 1 Tryd.underlying24 hi hz0 hz1 hz2 rfl (by omega) _ (2 * k) cs (by rfl) ((hown.alloc _).drew)
              ⟨wr.heap.size, 0, none⟩ 2 2 [.int .u8 ((hexS[b / 16]'q1).toNat : Int), .int .u8 ((hexS[b % 16]'q2).toNat : Int)] (by rfl) (by rfl) (World.news_of_block (cs := #[.int .u8 ((hexS[b / 16]'q1).toNat : Int), .int .u8 ((hexS[b % 16]'q2).toNat : Int)]) (t := 5) (fr := (0, 0)) (heap_alloc_new wr _)) (by simp [Value.oneCell'])
              (by omega) (by unfold maxLen; omega) (by omega) (by simp; omega) (wr.heap.size + 1) (by simp) ?_; intro gg cap w1 hown1 hgrow hat hlt1))
        all_goals
          have hx2 : Ext w w1 := Below.grown (Ext.drewN (Ext.alloc hx _) 1) hgrow (by simp; omega) (fun j hj => (hown.lt j hj).1)
          clear hgrow t1 t2 t5 t6
          go_wp2
          go_roundw
          case rel => exact ⟨k + 1, by omega, by go_num, by rw [← hcells.out]; exact hown1, hx2⟩
          case measure => simp [intOf]; omega
      · obtain rfl : k = l.length := by omega
        rw [List.take_of_length_le (Nat.le_refl _), ← hexP_len] at hown
        obtain ⟨a1, c1, hv1⟩ := OwnB.shape hown
        have hcv := (OwnB.by hown (by rw [hexP_len]; omega)).conv
        subst hv1
        clear hown
        go_wp2
        go_ret
        exact ⟨rfl, hx⟩
end Go.Proofs.YtapngkjgagapeaaDoor
