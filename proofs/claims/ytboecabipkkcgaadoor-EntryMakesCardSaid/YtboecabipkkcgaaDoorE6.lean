import Derived.Test.YtboecabipkkcgaaDoorE5
import Derived.Deep.AppendLies
/- The digits of bytes in the reference: Hex; the reference's number. -/
namespace Go.Proofs.YtboecabipkkcgaaDoor
open Go.RowKit

theorem numsV_hex (l : List UInt8) (b : UInt8) (x y : UInt8) (hx : x = hexD (b.toNat / 16)) (hy : y = hexD (b.toNat % 16)) : (nums (hexP l)).map (Value.int .u8) ++ [.int .u8 (x.toNat : Int), .int .u8 (y.toNat : Int)] = (nums (hexP (l ++ [b]))).map (Value.int .u8) := by
  subst hx hy
  rw [hexP_snoc]; simp [nums]

set_option maxRecDepth 100000 in
set_option maxHeartbeats 4000000 in
theorem refHex_any (v : Value) (l : List UInt8) (w : World) (hv : By w v l) (hs : l.length ≤ 100000) :
    Calls Tryd.prog 38 #[v] w fun e w' => e = .returned (.string ⟨(hexL l).toArray⟩) ∧ Ext w w' := by
  obtain ⟨a, c, rfl, _, hlc, hcm, hcells⟩ := hv
  by_cases h0 : l.length = 0
  · obtain rfl : l = [] := List.eq_nil_of_length_eq_zero h0
    clear hcells
    go_enter Tryd.func38, Tryd.ntmps38
    go_wp2
    go_ret
    exact ⟨rfl, Below.refl _ _⟩
  · have hl : hexL l = hexP l := by unfold hexL; rw [if_neg (fun e => h0 (by rw [e]; rfl))]
    rw [hl]
    have e1 : ((l.length : Int) == 0) = false := by rw [beq_eq_false_iff_ne]; omega
    obtain ⟨bb, o, rfl, hc0⟩ := hcells (by omega)
    have HC := Box.mk hc0
    have HE := Box.mk e1
    obtain ⟨i0, hi, hz0, hz1, hz2⟩ := info_parts infoByte
    have hbb : bb < w.heap.size := lt_of_cell (hc0 0 (by omega))
    clear h0 hl hcells hc0
    go_enter Tryd.func38, Tryd.ntmps38
    go_wp2
    go_loopw [3, 4] (fun v i wr => ∃ k : Nat, k ≤ l.length ∧ i = .int .i64 k ∧ wr.ownsRow w.heap.size 5 1 v (2 * k) ((nums (hexP (l.take k))).map (Value.int .u8)) ∧ Ext w wr) (fun _ i _ => l.length - (intOf i).toNat)
    case atStart => exact ⟨0, by omega, rfl, World.ownsRow_nil _ _ _ _, Below.refl _ _⟩
    case round =>
      obtain ⟨k, hk, rfl, hown, hx⟩ := hrel
      have hsz := hx.size
      by_cases hlt : k < l.length
      · have hb : l[k].toNat < 256 := l[k].toNat_lt
        have q1 : l[k].toNat / 16 < hexS.size := by show _ < 16; omega
        have q2 : l[k].toNat % 16 < hexS.size := by show _ < 16; omega
        have hcl : Box (w.cell? ⟨bb, o + k, none⟩ = some (.int .u8 (l[k].toNat : Int))) := ⟨by rw [HC.out k hlt, nums_getD l k hlt]⟩
        have cl := hx.cell hcl.out
        have hcells : Box ((nums (hexP (l.take k))).map (Value.int .u8) ++ [.int .u8 ((hexS[l[k].toNat / 16]'q1).toNat : Int), .int .u8 ((hexS[l[k].toNat % 16]'q2).toNat : Int)] = (nums (hexP (l.take (k + 1)))).map (Value.int .u8)) := ⟨by
          rw [numsV_hex (l.take k) l[k] _ _ (hexS_at _ (by omega) _) (hexS_at _ (by omega) _), List.take_succ_eq_append_getElem hlt]⟩
        have hne : some bb ≠ Value.ownBlock u3 := fun e => by have := (hown.lt bb e.symm).1; omega
        generalize l[k].toNat = b at *
        generalize (nums (hexP (l.take k))).map (Value.int .u8) = cs at *
        have n3 : (0 : Int) ≤ (b : Int) / 16 := by omega
        have n4 : (b : Int) / 16 < 16 := by omega
        have n5 : (0 : Int) ≤ (b : Int) % 16 := by omega
        have n6 : (b : Int) % 16 < 16 := by omega
        have t3 : ((b : Int) / 16).toNat = b / 16 := by omega
        have t4 : ((b : Int) % 16).toNat = b % 16 := by omega
        have t5 : IntKind.u8.wrap ((b : Int) / 16) = (b : Int) / 16 := by rw [IntKind.wrap_u8]; omega
        have t6 : IntKind.u8.wrap ((b : Int) % 16) = (b : Int) % 16 := by rw [IntKind.wrap_u8]; omega
        have t1 : (b : Int).tdiv 16 = (b : Int) / 16 := rfl
        have t2 : (b : Int).tmod 16 = (b : Int) % 16 := rfl
        have n1 : (0 : Int) ≤ (k : Int) := by omega
        have n2 : (k : Int) < (l.length : Int) := by omega
        go_wp2_with fail
        go_region_held3 (fun w' => w'.cell? ⟨bb, o + k, none⟩ = some (.int .u8 (b : Int)))
          (first
            | go_keep
            | ((rw [hgrow.cell_far _ (by simp; omega) hne]); go_simp))
          ((refine step_append_lies _ (by rfl) _ _ _ (by rfl) w.heap.size 5 i0 _ 1 1 Tryd.underlying25 hi hz0 hz1 hz2 rfl (by omega) _ (2 * k) cs (by rfl) ((hown.alloc _).drew)
              ⟨wr.heap.size, 0, none⟩ 2 2 [.int .u8 ((hexS[b / 16]'q1).toNat : Int), .int .u8 ((hexS[b % 16]'q2).toNat : Int)] (by rfl) (by rfl) (World.news_of_block (cs := #[.int .u8 ((hexS[b / 16]'q1).toNat : Int), .int .u8 ((hexS[b % 16]'q2).toNat : Int)]) (t := 5) (fr := (0, 0)) (heap_alloc_new wr _)) (by simp [Value.oneCell'])
              (by omega) (by unfold maxLen; omega) (by omega) (by simp; omega) (wr.heap.size + 1) (by simp) ?_; intro gg cap w1 hown1 hgrow hat hlt1))
        all_goals
          have hx2 : Ext w w1 := Below.grown (Ext.drewN (Ext.alloc hx _) 1) hgrow (by simp; omega) (fun j hj => (hown.lt j hj).1)
          clear hgrow t1 t2 t5 t6
          go_wp2
          go_roundw
          case rel => exact ⟨k + 1, by omega, by go_num, by rw [← hcells.out]; exact hown1, hx2⟩
          case measure => simp [intOf]; omega
      · obtain rfl : k = l.length := by omega
        rw [List.take_of_length_le (Nat.le_refl _), ← hexP_len] at hown
        obtain ⟨a1, c1, hv1⟩ := OwnB.shape hown
        have hcv := (OwnB.by hown (by rw [hexP_len]; omega)).conv
        subst hv1
        clear hown
        go_wp2
        go_ret
        exact ⟨rfl, hx⟩
end Go.Proofs.YtboecabipkkcgaaDoor
