import Derived.Test.YtbnmnkmjokcmfaaDoorSE
import Derived.Test.YtbnmnkmjokcmfaaDoorS2
import Derived.Deep.RegionHeld3
import Derived.Lib.TrimAscii
import Derived.IntWalk
/- season: Text, and what LastIndexAny finds in short ASCII strings. -/
namespace Go.Proofs.YtbnmnkmjokcmfaaDoor
open Go.RowKit
theorem takeD {P : Program} {ops : Array Oper} {Q : Exit → Act → World → Prop} {md : Region.Mode} {S : World → Prop} {i : Nat} {oi : Oper} {d : Option Tmp} {v : Value} {fuel : Nat} {listed : Array Bool} {a : Act} {w : World} (hi : ops[i]? = some oi) (hd : oi.dst = d)
    (hs : Region.noSelect ops = true) (hf : Region.free md ops listed i = true) (hr : (Region.ready md ops listed).contains i = true)
    (hQ : ∀ c a w, Q (.panic c) (a.put d v) w → Q (.panic c) a w) (hy : YieldsIf P ops S oi v a) (hS : S w)
    (h : wpAnyH P md ops Q S fuel (listed.setIfInBounds i true) (a.put d v) w) : wpAnyH P md ops Q S (fuel + 1) listed a w := by
  subst hd
  exact wpAnyH_take hi hs hf hr hQ hy hS h
def signL (b : Int) : List UInt8 := if b < 0 then [45] else [43]
/-- the text of a number -/
def textG (a b : Int) : List UInt8 := ((Lib.itoa a ++ signL b) ++ Lib.itoa (max b (-b))) ++ [105]
theorem itoa_len (n : Int) (h : -9999999 ≤ n ∧ n ≤ 9999999) : (Lib.itoa n).length ≤ 8 := by
  have h1 := dd_len 6 n.natAbs (by omega)
  have h2 := dd_len 6 n.toNat (by omega)
  unfold Lib.itoa
  split
  · rw [List.length_cons]; omega
  · omega
theorem valid_1 (B : Nat) (a b : Int) (w : World) (T : TypeId) (h : w.heap[B]? = some (.cells #[.int .i64 a, .int .i64 b] T (0, 0))) :
    Calls Tryd.prog 36 #[.slice (some ⟨B, 0, none⟩) 1 1] w fun e w' => e = .returned (.bool (gB a b)) ∧ Ext w w' := by
  have h9 := valid_any B 1 1 (fun _ => a) (fun _ => b) w (fun j hj => by
    obtain rfl : j = 0 := by omega
    exact ⟨by rw [Lib.cell_of_heap h]; rfl, by rw [Lib.cell_of_heap h]; rfl⟩) (by omega)
  have e : allV (fun _ => a) (fun _ => b) 1 = gB a b := by simp [allV]
  rw [e] at h9
  exact h9
set_option maxRecDepth 100000 in
set_option maxHeartbeats 4000000 in
theorem stext_bad (a b : Int) (w : World) (h : gB a b = false) : Calls Tryd.prog 9 #[.agg #[.int .i64 a, .int .i64 b]] w fun e w' => e = .returned (.tuple #[.string ⟨#[]⟩, .int .i64 2]) ∧ Ext w w' := by
  have cv : Box (∀ (B : Nat) (T : TypeId) (w : World), w.heap[B]? = some (.cells #[.int .i64 a, .int .i64 b] T (0, 0)) → Calls Tryd.prog 36 #[.slice (some ⟨B, 0, none⟩) 1 1] w fun e w' => e = .returned (.bool false) ∧ Ext w w') := ⟨fun B T w hB => by rw [← h]; exact valid_1 B a b w T hB⟩
  have hx : Ext w ((w.alloc (.cells #[.int .i64 a, .int .i64 b] 23)).alloc (.cells #[.int .i64 a, .int .i64 b] 23)) := Ext.alloc (Ext.alloc (Below.refl _ _) _) _
  have hB := newblk (w.alloc (.cells #[.int .i64 a, .int .i64 b] 23)) (.cells #[.int .i64 a, .int .i64 b] 23)
  rw [show (w.alloc (.cells #[.int .i64 a, .int .i64 b] 23)).heap.size = w.heap.size + 1 by simp] at hB
  clear h
  go_enter Tryd.func9, Tryd.ntmps9
  go_wp2_with (first | (go_at_call 36; (with_reducible refine (cv.out _ _ _ hB).mono ?_); rintro e w1 ⟨rfl, hb⟩; have hx := Ext.trans' hx hb))
  go_ret2
  exact ⟨rfl, hx⟩
set_option maxRecDepth 100000 in
set_option maxHeartbeats 4000000 in
theorem stext_ok (a b : Int) (w : World) (h : gB a b = true) (ht : Tabs w) : Calls Tryd.prog 9 #[.agg #[.int .i64 a, .int .i64 b]] w fun e w' => e = .returned (.tuple #[.string ⟨(textG a b).toArray⟩, .int .i64 0]) ∧ Ext w w' := by
  have cv : Box (∀ (B : Nat) (T : TypeId) (w : World), w.heap[B]? = some (.cells #[.int .i64 a, .int .i64 b] T (0, 0)) → Calls Tryd.prog 36 #[.slice (some ⟨B, 0, none⟩) 1 1] w fun e w' => e = .returned (.bool true) ∧ Ext w w') := ⟨fun B T w hB => by rw [← h]; exact valid_1 B a b w T hB⟩
  have hg := gB_iff.1 h
  have c1 : Box (∀ w', Ext w w' → _) := ⟨fun w' hx => gitoa_any a w' (by omega) (by omega) (ht.ext hx)⟩
  have c2 : Box (∀ w', Ext w w' → _) := ⟨fun w' hx => gitoa_any (max b (-b)) w' (by omega) (by omega) (ht.ext hx)⟩
  have hx : Ext w ((w.alloc (.cells #[.int .i64 a, .int .i64 b] 23)).alloc (.cells #[.int .i64 a, .int .i64 b] 23)) := Ext.alloc (Ext.alloc (Below.refl _ _) _) _
  have hA := Ext.blk (Ext.alloc (Below.refl _ _) (.cells #[.int .i64 a, .int .i64 b] 23)) (newblk w (.cells #[.int .i64 a, .int .i64 b] 23))
  have hB := newblk (w.alloc (.cells #[.int .i64 a, .int .i64 b] 23)) (.cells #[.int .i64 a, .int .i64 b] 23)
  rw [show (w.alloc (.cells #[.int .i64 a, .int .i64 b] 23)).heap.size = w.heap.size + 1 by simp] at hB
  have s1 := itoa_len a (by omega)
  have s2 := itoa_len (max b (-b)) (by omega)
  have z1 : (⟨(Lib.itoa a).toArray⟩ : ByteArray).size ≤ 8 := s1
  have z2 : (⟨(Lib.itoa (max b (-b))).toArray⟩ : ByteArray).size ≤ 8 := s2
  have hneg : IntKind.i64.wrap (-b) = -b := by rw [IntKind.wrap_i64]; omega
  have hcat : (⟨(textG a b).toArray⟩ : ByteArray) = ((⟨(Lib.itoa a).toArray⟩ ++ ⟨(signL b).toArray⟩) ++ ⟨(Lib.itoa (max b (-b))).toArray⟩) ++ ⟨#[105]⟩ := by
    apply ByteArray.ext; apply Array.ext'
    simp [textG, ByteArray.data_append]
  rw [hcat]
  have key : (decide (b < 0) = true ∧ Box ((⟨(signL b).toArray⟩ : ByteArray) = ⟨#[45]⟩)) ∨ (decide (b < 0) = false ∧ Box ((⟨(signL b).toArray⟩ : ByteArray) = ⟨#[43]⟩)) := by
    unfold signL
    by_cases hb : b < 0
    · exact Or.inl ⟨decide_eq_true hb, ⟨by rw [if_pos hb]⟩⟩
    · exact Or.inr ⟨decide_eq_false hb, ⟨by rw [if_neg hb]⟩⟩
  clear h hg ht hcat s1 s2
  generalize (⟨(Lib.itoa a).toArray⟩ : ByteArray) = x1 at *
  generalize hmx : (⟨(Lib.itoa (max b (-b))).toArray⟩ : ByteArray) = x2 at *
  clear hmx
  have g1 : ¬ 9223372036854775807 < x1.size + 1 := by omega
  have g2 : ¬ 9223372036854775807 < x1.size + 1 + x2.size := by omega
  have g3 : ¬ 9223372036854775807 < x1.size + 1 + x2.size + 1 := by omega
  obtain ⟨a0, a1⟩ : ((w.alloc (.cells #[.int .i64 a, .int .i64 b] 23)).alloc (.cells #[.int .i64 a, .int .i64 b] 23)).cell? ⟨w.heap.size, 0, none⟩ = some (.int .i64 a) ∧ ((w.alloc (.cells #[.int .i64 a, .int .i64 b] 23)).alloc (.cells #[.int .i64 a, .int .i64 b] 23)).cell? ⟨w.heap.size, 1, none⟩ = some (.int .i64 b) := ⟨by rw [Lib.cell_of_heap hA]; rfl, by rw [Lib.cell_of_heap hA]; rfl⟩
  rcases key with ⟨d1, hs⟩ | ⟨d1, hs⟩
  · rw [hs.out]
    go_enter Tryd.func9, Tryd.ntmps9
    go_wp2_with (first | (go_at_call 36; (with_reducible refine (cv.out _ _ _ hB).mono ?_); rintro e w1 ⟨rfl, hb⟩; have hx := Ext.trans' hx hb; have a0 := Ext.cell hb a0; have a1 := Ext.cell hb a1))
    have hx := Ext.drew1 hx
    refine wp_region_held_drew (S := (fun w' => w'.cell? ⟨w.heap.size, 0, none⟩ = some (.int .i64 a) ∧ w'.cell? ⟨w.heap.size, 1, none⟩ = some (.int .i64 b))) (by kernel_rfl) ?_ (fun hHeld => ?_)
    · (try dsimp only); (exact ⟨a0, a1⟩)
    refine takeD (i := 0) (d := (some 12)) (v := ?_) rfl (by kernel_rfl) (by kernel_rfl) (by kernel_rfl) (by kernel_rfl) (fun _ _ _ h => h) (Or.inl ⟨by kernel_rfl, ?rgy⟩) (by assumption) ?rgn
    case rgy => (intro w hSw; (try dsimp only at hSw); go_simp; (try with_reducible rfl))
    case rgn =>
      (try simp only [Act.put, List.setIfInBounds_toArray, List.set_cons_zero, List.set_cons_succ])
      refine takeD (i := 1) (d := (some 13)) (v := ?_) rfl (by kernel_rfl) (by kernel_rfl) (by kernel_rfl) (by kernel_rfl) (fun _ _ _ h => h) (Or.inl ⟨by kernel_rfl, ?rgy⟩) (by assumption) ?rgn
      case rgy => (intro w hSw; (try dsimp only at hSw); go_simp; (try with_reducible rfl))
      case rgn =>
        (try simp only [Act.put, List.setIfInBounds_toArray, List.set_cons_zero, List.set_cons_succ])
        refine takeD (i := 3) (d := (some 15)) (v := ?_) rfl (by kernel_rfl) (by kernel_rfl) (by kernel_rfl) (by kernel_rfl) (fun _ _ _ h => h) (Or.inl ⟨by kernel_rfl, ?rgy⟩) (by assumption) ?rgn
        case rgy => (intro w hSw; (try dsimp only at hSw); go_simp; (try with_reducible rfl))
        case rgn =>
          (try simp only [Act.put, List.setIfInBounds_toArray, List.set_cons_zero, List.set_cons_succ])
          refine takeD (i := 5) (d := (some 17)) (v := ?_) rfl (by kernel_rfl) (by kernel_rfl) (by kernel_rfl) (by kernel_rfl) (fun _ _ _ h => h) (Or.inl ⟨by kernel_rfl, ?rgy⟩) (by assumption) ?rgn
          case rgy => (intro w hSw; (try dsimp only at hSw); go_simp; (try with_reducible rfl))
          case rgn =>
            (try simp only [Act.put, List.setIfInBounds_toArray, List.set_cons_zero, List.set_cons_succ])
            refine takeD (i := 6) (d := (some 18)) (v := ?_) rfl (by kernel_rfl) (by kernel_rfl) (by kernel_rfl) (by kernel_rfl) (fun _ _ _ h => h) (Or.inl ⟨by kernel_rfl, ?rgy⟩) (by assumption) ?rgn
            case rgy => (intro w hSw; (try dsimp only at hSw); go_simp; (try with_reducible rfl))
            case rgn =>
              (try simp only [Act.put, List.setIfInBounds_toArray, List.set_cons_zero, List.set_cons_succ])
              refine takeD (i := 7) (d := (some 19)) (v := ?_) rfl (by kernel_rfl) (by kernel_rfl) (by kernel_rfl) (by kernel_rfl) (fun _ _ _ h => h) (Or.inl ⟨by kernel_rfl, ?rgy⟩) (by assumption) ?rgn
              case rgy => (intro w hSw; (try dsimp only at hSw); go_simp; (try with_reducible rfl))
              case rgn =>
                (try simp only [Act.put, List.setIfInBounds_toArray, List.set_cons_zero, List.set_cons_succ])
                refine takeD (i := 8) (d := (some 20)) (v := ?_) rfl (by kernel_rfl) (by kernel_rfl) (by kernel_rfl) (by kernel_rfl) (fun _ _ _ h => h) (Or.inl ⟨by kernel_rfl, ?rgy⟩) (by assumption) ?rgn
                case rgy => (intro w hSw; (try dsimp only at hSw); go_simp; (try with_reducible rfl))
                case rgn =>
                  (try simp only [Act.put, List.setIfInBounds_toArray, List.set_cons_zero, List.set_cons_succ])
                  refine takeD (i := 9) (d := (some 21)) (v := ?_) rfl (by kernel_rfl) (by kernel_rfl) (by kernel_rfl) (by kernel_rfl) (fun _ _ _ h => h) (Or.inl ⟨by kernel_rfl, ?rgy⟩) (by assumption) ?rgn
                  case rgy => (intro w hSw; (try dsimp only at hSw); go_simp; (try with_reducible rfl))
                  case rgn =>
                    (try simp only [Act.put, List.setIfInBounds_toArray, List.set_cons_zero, List.set_cons_succ])
                    refine takeD (i := 10) (d := (some 22)) (v := ?_) rfl (by kernel_rfl) (by kernel_rfl) (by kernel_rfl) (by kernel_rfl) (fun _ _ _ h => h) (Or.inl ⟨by kernel_rfl, ?rgy⟩) (by assumption) ?rgn
                    case rgy => (intro w hSw; (try dsimp only at hSw); go_simp; (try with_reducible rfl))
                    case rgn =>
                      (try simp only [Act.put, List.setIfInBounds_toArray, List.set_cons_zero, List.set_cons_succ])
                      refine wpAnyH_ready (rs := [2]) (by kernel_rfl) (by simp) ?_
                      refine AllReadyH.cons rfl (fun K hK => ?_) AllReadyH.nil
                      go_simp
                      (go_at_call 37; (with_reducible refine (c1.out _ hx).mono ?_); rintro e w2 ⟨rfl, hb2⟩; have hx := Ext.trans' hx hb2; have a0 := Ext.cell hb2 a0; have a1 := Ext.cell hb2 a1)
                      (try go_wp2_with fail)
                      refine hK.out _ _ ?_ (fun hHeld => ?_)
                      · (try dsimp only); (exact ⟨a0, a1⟩)
                      clear hK K
                      (try simp only [Act.put, List.setIfInBounds_toArray, List.set_cons_zero, List.set_cons_succ])
                      refine takeD (i := 4) (d := (some 16)) (v := ?_) rfl (by kernel_rfl) (by kernel_rfl) (by kernel_rfl) (by kernel_rfl) (fun _ _ _ h => h) (Or.inl ⟨by kernel_rfl, ?rgy⟩) (by assumption) ?rgn
                      case rgy => (intro w hSw; (try dsimp only at hSw); go_simp; (try with_reducible rfl))
                      case rgn =>
                        (try simp only [Act.put, List.setIfInBounds_toArray, List.set_cons_zero, List.set_cons_succ])
                        refine wpAnyH_ready (rs := [11]) (by kernel_rfl) (by simp) ?_
                        refine AllReadyH.cons rfl (fun K hK => ?_) AllReadyH.nil
                        go_simp
                        (go_at_call 37; (with_reducible refine (c2.out _ hx).mono ?_); rintro e w2 ⟨rfl, hb2⟩; have hx := Ext.trans' hx hb2; have a0 := Ext.cell hb2 a0; have a1 := Ext.cell hb2 a1)
                        (try go_wp2_with fail)
                        refine hK.out _ _ ?_ (fun hHeld => ?_)
                        · (try dsimp only); (exact ⟨a0, a1⟩)
                        clear hK K
                        (try simp only [Act.put, List.setIfInBounds_toArray, List.set_cons_zero, List.set_cons_succ])
                        refine takeD (i := 12) (d := (some 24)) (v := ?_) rfl (by kernel_rfl) (by kernel_rfl) (by kernel_rfl) (by kernel_rfl) (fun _ _ _ h => h) (Or.inl ⟨by kernel_rfl, ?rgy⟩) (by assumption) ?rgn
                        case rgy => (intro w hSw; (try dsimp only at hSw); go_simp; (try with_reducible rfl))
                        case rgn =>
                          (try simp only [Act.put, List.setIfInBounds_toArray, List.set_cons_zero, List.set_cons_succ])
                          refine takeD (i := 13) (d := (some 25)) (v := ?_) rfl (by kernel_rfl) (by kernel_rfl) (by kernel_rfl) (by kernel_rfl) (fun _ _ _ h => h) (Or.inl ⟨by kernel_rfl, ?rgy⟩) (by assumption) ?rgn
                          case rgy => (intro w hSw; (try dsimp only at hSw); go_simp; (try with_reducible rfl))
                          case rgn =>
                            (try simp only [Act.put, List.setIfInBounds_toArray, List.set_cons_zero, List.set_cons_succ])
                            refine takeD (i := 14) (d := (some 2)) (v := ?_) rfl (by kernel_rfl) (by kernel_rfl) (by kernel_rfl) (by kernel_rfl) (fun _ _ _ h => h) (Or.inl ⟨by kernel_rfl, ?rgy⟩) (by assumption) ?rgn
                            case rgy => (intro w hSw; (try dsimp only at hSw); go_simp; (try with_reducible rfl))
                            case rgn =>
                              (try simp only [Act.put, List.setIfInBounds_toArray, List.set_cons_zero, List.set_cons_succ])
                              refine takeD (i := 15) (d := (some 3)) (v := ?_) rfl (by kernel_rfl) (by kernel_rfl) (by kernel_rfl) (by kernel_rfl) (fun _ _ _ h => h) (Or.inl ⟨by kernel_rfl, ?rgy⟩) (by assumption) ?rgn
                              case rgy => (intro w hSw; (try dsimp only at hSw); go_simp; (try with_reducible rfl))
                              case rgn =>
                                (try simp only [Act.put, List.setIfInBounds_toArray, List.set_cons_zero, List.set_cons_succ])
                                refine wpAnyH_done (by kernel_rfl) ?_ _
                                go_wp2
                                go_ret2
                                exact ⟨rfl, hx⟩
  · rw [hs.out]
    go_enter Tryd.func9, Tryd.ntmps9
    go_wp2_with (first | (go_at_call 36; (with_reducible refine (cv.out _ _ _ hB).mono ?_); rintro e w1 ⟨rfl, hb⟩; have hx := Ext.trans' hx hb; have a0 := Ext.cell hb a0; have a1 := Ext.cell hb a1))
    have hx := Ext.drew1 hx
    refine wp_region_held_drew (S := (fun w' => w'.cell? ⟨w.heap.size, 0, none⟩ = some (.int .i64 a) ∧ w'.cell? ⟨w.heap.size, 1, none⟩ = some (.int .i64 b))) (by kernel_rfl) ?_ (fun hHeld => ?_)
    · (try dsimp only); (exact ⟨a0, a1⟩)
    refine takeD (i := 0) (d := (some 12)) (v := ?_) rfl (by kernel_rfl) (by kernel_rfl) (by kernel_rfl) (by kernel_rfl) (fun _ _ _ h => h) (Or.inl ⟨by kernel_rfl, ?rgy⟩) (by assumption) ?rgn
    case rgy => (intro w hSw; (try dsimp only at hSw); go_simp; (try with_reducible rfl))
    case rgn =>
      (try simp only [Act.put, List.setIfInBounds_toArray, List.set_cons_zero, List.set_cons_succ])
      refine takeD (i := 1) (d := (some 13)) (v := ?_) rfl (by kernel_rfl) (by kernel_rfl) (by kernel_rfl) (by kernel_rfl) (fun _ _ _ h => h) (Or.inl ⟨by kernel_rfl, ?rgy⟩) (by assumption) ?rgn
      case rgy => (intro w hSw; (try dsimp only at hSw); go_simp; (try with_reducible rfl))
      case rgn =>
        (try simp only [Act.put, List.setIfInBounds_toArray, List.set_cons_zero, List.set_cons_succ])
        refine takeD (i := 3) (d := (some 15)) (v := ?_) rfl (by kernel_rfl) (by kernel_rfl) (by kernel_rfl) (by kernel_rfl) (fun _ _ _ h => h) (Or.inl ⟨by kernel_rfl, ?rgy⟩) (by assumption) ?rgn
        case rgy => (intro w hSw; (try dsimp only at hSw); go_simp; (try with_reducible rfl))
        case rgn =>
          (try simp only [Act.put, List.setIfInBounds_toArray, List.set_cons_zero, List.set_cons_succ])
          refine takeD (i := 5) (d := (some 17)) (v := ?_) rfl (by kernel_rfl) (by kernel_rfl) (by kernel_rfl) (by kernel_rfl) (fun _ _ _ h => h) (Or.inl ⟨by kernel_rfl, ?rgy⟩) (by assumption) ?rgn
          case rgy => (intro w hSw; (try dsimp only at hSw); go_simp; (try with_reducible rfl))
          case rgn =>
            (try simp only [Act.put, List.setIfInBounds_toArray, List.set_cons_zero, List.set_cons_succ])
            refine takeD (i := 6) (d := (some 18)) (v := ?_) rfl (by kernel_rfl) (by kernel_rfl) (by kernel_rfl) (by kernel_rfl) (fun _ _ _ h => h) (Or.inl ⟨by kernel_rfl, ?rgy⟩) (by assumption) ?rgn
            case rgy => (intro w hSw; (try dsimp only at hSw); go_simp; (try with_reducible rfl))
            case rgn =>
              (try simp only [Act.put, List.setIfInBounds_toArray, List.set_cons_zero, List.set_cons_succ])
              refine takeD (i := 7) (d := (some 19)) (v := ?_) rfl (by kernel_rfl) (by kernel_rfl) (by kernel_rfl) (by kernel_rfl) (fun _ _ _ h => h) (Or.inl ⟨by kernel_rfl, ?rgy⟩) (by assumption) ?rgn
              case rgy => (intro w hSw; (try dsimp only at hSw); go_simp; (try with_reducible rfl))
              case rgn =>
                (try simp only [Act.put, List.setIfInBounds_toArray, List.set_cons_zero, List.set_cons_succ])
                refine takeD (i := 8) (d := (some 20)) (v := ?_) rfl (by kernel_rfl) (by kernel_rfl) (by kernel_rfl) (by kernel_rfl) (fun _ _ _ h => h) (Or.inl ⟨by kernel_rfl, ?rgy⟩) (by assumption) ?rgn
                case rgy => (intro w hSw; (try dsimp only at hSw); go_simp; (try with_reducible rfl))
                case rgn =>
                  (try simp only [Act.put, List.setIfInBounds_toArray, List.set_cons_zero, List.set_cons_succ])
                  refine takeD (i := 9) (d := (some 21)) (v := ?_) rfl (by kernel_rfl) (by kernel_rfl) (by kernel_rfl) (by kernel_rfl) (fun _ _ _ h => h) (Or.inl ⟨by kernel_rfl, ?rgy⟩) (by assumption) ?rgn
                  case rgy => (intro w hSw; (try dsimp only at hSw); go_simp; (try with_reducible rfl))
                  case rgn =>
                    (try simp only [Act.put, List.setIfInBounds_toArray, List.set_cons_zero, List.set_cons_succ])
                    refine takeD (i := 10) (d := (some 22)) (v := ?_) rfl (by kernel_rfl) (by kernel_rfl) (by kernel_rfl) (by kernel_rfl) (fun _ _ _ h => h) (Or.inl ⟨by kernel_rfl, ?rgy⟩) (by assumption) ?rgn
                    case rgy => (intro w hSw; (try dsimp only at hSw); go_simp; (try with_reducible rfl))
                    case rgn =>
                      (try simp only [Act.put, List.setIfInBounds_toArray, List.set_cons_zero, List.set_cons_succ])
                      refine wpAnyH_ready (rs := [2]) (by kernel_rfl) (by simp) ?_
                      refine AllReadyH.cons rfl (fun K hK => ?_) AllReadyH.nil
                      go_simp
                      (go_at_call 37; (with_reducible refine (c1.out _ hx).mono ?_); rintro e w2 ⟨rfl, hb2⟩; have hx := Ext.trans' hx hb2; have a0 := Ext.cell hb2 a0; have a1 := Ext.cell hb2 a1)
                      (try go_wp2_with fail)
                      refine hK.out _ _ ?_ (fun hHeld => ?_)
                      · (try dsimp only); (exact ⟨a0, a1⟩)
                      clear hK K
                      (try simp only [Act.put, List.setIfInBounds_toArray, List.set_cons_zero, List.set_cons_succ])
                      refine takeD (i := 4) (d := (some 16)) (v := ?_) rfl (by kernel_rfl) (by kernel_rfl) (by kernel_rfl) (by kernel_rfl) (fun _ _ _ h => h) (Or.inl ⟨by kernel_rfl, ?rgy⟩) (by assumption) ?rgn
                      case rgy => (intro w hSw; (try dsimp only at hSw); go_simp; (try with_reducible rfl))
                      case rgn =>
                        (try simp only [Act.put, List.setIfInBounds_toArray, List.set_cons_zero, List.set_cons_succ])
                        refine wpAnyH_ready (rs := [11]) (by kernel_rfl) (by simp) ?_
                        refine AllReadyH.cons rfl (fun K hK => ?_) AllReadyH.nil
                        go_simp
                        (go_at_call 37; (with_reducible refine (c2.out _ hx).mono ?_); rintro e w2 ⟨rfl, hb2⟩; have hx := Ext.trans' hx hb2; have a0 := Ext.cell hb2 a0; have a1 := Ext.cell hb2 a1)
                        (try go_wp2_with fail)
                        refine hK.out _ _ ?_ (fun hHeld => ?_)
                        · (try dsimp only); (exact ⟨a0, a1⟩)
                        clear hK K
                        (try simp only [Act.put, List.setIfInBounds_toArray, List.set_cons_zero, List.set_cons_succ])
                        refine takeD (i := 12) (d := (some 24)) (v := ?_) rfl (by kernel_rfl) (by kernel_rfl) (by kernel_rfl) (by kernel_rfl) (fun _ _ _ h => h) (Or.inl ⟨by kernel_rfl, ?rgy⟩) (by assumption) ?rgn
                        case rgy => (intro w hSw; (try dsimp only at hSw); go_simp; (try with_reducible rfl))
                        case rgn =>
                          (try simp only [Act.put, List.setIfInBounds_toArray, List.set_cons_zero, List.set_cons_succ])
                          refine takeD (i := 13) (d := (some 25)) (v := ?_) rfl (by kernel_rfl) (by kernel_rfl) (by kernel_rfl) (by kernel_rfl) (fun _ _ _ h => h) (Or.inl ⟨by kernel_rfl, ?rgy⟩) (by assumption) ?rgn
                          case rgy => (intro w hSw; (try dsimp only at hSw); go_simp; (try with_reducible rfl))
                          case rgn =>
                            (try simp only [Act.put, List.setIfInBounds_toArray, List.set_cons_zero, List.set_cons_succ])
                            refine takeD (i := 14) (d := (some 2)) (v := ?_) rfl (by kernel_rfl) (by kernel_rfl) (by kernel_rfl) (by kernel_rfl) (fun _ _ _ h => h) (Or.inl ⟨by kernel_rfl, ?rgy⟩) (by assumption) ?rgn
                            case rgy => (intro w hSw; (try dsimp only at hSw); go_simp; (try with_reducible rfl))
                            case rgn =>
                              (try simp only [Act.put, List.setIfInBounds_toArray, List.set_cons_zero, List.set_cons_succ])
                              refine takeD (i := 15) (d := (some 3)) (v := ?_) rfl (by kernel_rfl) (by kernel_rfl) (by kernel_rfl) (by kernel_rfl) (fun _ _ _ h => h) (Or.inl ⟨by kernel_rfl, ?rgy⟩) (by assumption) ?rgn
                              case rgy => (intro w hSw; (try dsimp only at hSw); go_simp; (try with_reducible rfl))
                              case rgn =>
                                (try simp only [Act.put, List.setIfInBounds_toArray, List.set_cons_zero, List.set_cons_succ])
                                refine wpAnyH_done (by kernel_rfl) ?_ _
                                go_wp2
                                go_ret2
                                exact ⟨rfl, hx⟩
-- END stext_ok
/-- the last index of a sign -/
theorem lastS_at (l : List UInt8) : ∀ i, i < l.length → (l.getD i 0 = 43 ∨ l.getD i 0 = 45) → (∀ j, i < j → j < l.length → ¬ (l.getD j 0 = 43 ∨ l.getD j 0 = 45)) → lastS l = i := by
  have none : ∀ l : List UInt8, (∀ j, j < l.length → ¬ (l.getD j 0 = 43 ∨ l.getD j 0 = 45)) → lastS l = -1 := by
    intro l
    induction l with
    | nil => intro _; rfl
    | cons c r ih =>
      intro h
      have h1 := ih (fun j hj => by have := h (j + 1) (by simp; omega); simpa using this)
      have h2 := h 0 (by simp)
      unfold lastS
      rw [h1, if_neg (by decide), if_neg (by simpa using h2)]
  induction l with
  | nil => intro i hi; simp at hi
  | cons c r ih =>
    intro i hi hc hno
    cases i with
    | zero =>
      have h1 := none r (fun j hj => by have := hno (j + 1) (by omega) (by simp; omega); simpa using this)
      unfold lastS
      rw [h1, if_neg (by decide), if_pos (by simpa using hc)]
      rfl
    | succ i =>
      have h1 := ih i (by simpa using hi) (by simpa using hc) (fun j hj hl => by have := hno (j + 1) (by omega) (by simp; omega); simpa using this)
      unfold lastS
      rw [h1, if_pos (by omega)]
      omega
theorem lastS_none (l : List UInt8) (h : ∀ j, j < l.length → ¬ (l.getD j 0 = 43 ∨ l.getD j 0 = 45)) : lastS l = -1 := by
  induction l with
  | nil => rfl
  | cons c r ih =>
    have h1 := ih (fun j hj => by have := h (j + 1) (by simp; omega); simpa using this)
    have h2 := h 0 (by simp)
    unfold lastS
    rw [h1, if_neg (by decide), if_neg (by simpa using h2)]
def signsB : ByteArray := ⟨#[43, 45]⟩
theorem idx_sign (r : UInt8) : (0 ≤ Lib.indexByte [43, 45] r) ↔ (r = 43 ∨ r = 45) := by
  have : ∀ n : Fin 256, (0 ≤ Lib.indexByte [43, 45] (UInt8.ofNat n.val)) ↔ (UInt8.ofNat n.val = 43 ∨ UInt8.ofNat n.val = 45) := by decide +kernel
  have h := this ⟨r.toNat, r.toNat_lt⟩
  simpa using h
set_option maxRecDepth 100000 in
set_option maxHeartbeats 4000000 in
theorem la_short (s : ByteArray) (h2 : 2 ≤ s.size) (h8 : s.size ≤ 8) (ha : ∀ c ∈ s.data.toList, c.toNat < 128) (w : World) (hw : EnvS w) :
    Calls Tryd.prog 38 #[.string s, .string ⟨#[43, 45]⟩] w fun e w' => e = .returned (.int .i64 (lastS s.data.toList)) ∧ Ext w w' := by
  have hlen : s.data.toList.length = s.size := rfl
  have c1 : Box (∀ w, Calls Tryd.prog 53 #[.int .i64 s.size] w fun e w' => e = .returned (.bool (decide ((8 : Int) < (s.size : Int)))) ∧ w = w') := ⟨fun w => (Tryd.strings_shouldUseASCIISet (s.size : Int) w).mono fun e w' ⟨h1, h3⟩ => ⟨h1, h3.symm⟩⟩
  have d8 : decide ((8 : Int) < (s.size : Int)) = false := decide_eq_false (by omega)
  rw [d8] at c1
  have e1 : ((s.size : Int) == 1) = false := by rw [beq_eq_false_iff_ne]; omega
  have cI : Box (∀ (c : UInt8) (w : World), c.toNat < 128 → Calls Tryd.prog 52 #[.string ⟨#[43, 45]⟩, .int .i32 c.toNat] w fun e w' => e = .returned (.int .i64 (Lib.indexByte [43, 45] c)) ∧ w = w') := ⟨fun c w hc => (Tryd.strings_IndexRune_ascii ⟨#[43, 45]⟩ c.toNat w (by omega) (by omega)).mono fun e w' ⟨h1, h3⟩ => ⟨by rw [h1]; simp, h3.symm⟩⟩
  have HA := Box.mk ha; have HW := Box.mk hw
  have hx : Ext w w := Below.refl _ _
  clear ha hw
  go_enter Tryd.func38, Tryd.ntmps38
  go_wp2_with (first
    | (go_at_call 53; (with_reducible refine (c1.out _).mono ?_); rintro e w' ⟨rfl, rfl⟩))
  go_loopw [13] (fun iv wr => ∃ i : Nat, i ≤ s.size ∧ iv = .int .i64 i ∧ Box (∀ j, i ≤ j → j < s.data.toList.length → ¬ (s.data.toList.getD j 0 = 43 ∨ s.data.toList.getD j 0 = 45)) ∧ Box (Ext w wr)) (fun iv _ => (intOf iv).toNat)
  case atStart => exact ⟨s.size, Nat.le_refl _, rfl, ⟨fun j h1 h3 => by omega⟩, ⟨hx⟩⟩
  case round =>
    obtain ⟨i, hi, rfl, hno, hE⟩ := hrel
    by_cases hi0 : 0 < i
    · have d1 : decide ((0 : Int) < (i : Int)) = true := decide_eq_true (by omega)
      have d2 : decide (0 < i) = true := decide_eq_true hi0
      have hil : i - 1 < s.data.toList.length := by omega
      have hmem : s.data.toList.getD (i - 1) 0 ∈ s.data.toList := by
        rw [List.getD_eq_getElem?_getD, List.getElem?_eq_getElem hil]
        exact List.getElem_mem hil
      have hasc := HA.out _ hmem
      have hdl : Lib.decodeLastL (s.data.toList.take i) = ((s.data.toList.getD (i - 1) 0).toNat, 1) := by
        rcases Lib.last_cases s.data.toList i hi0 (by omega) with ⟨_, h⟩ | ⟨h, _⟩ | ⟨h, _⟩
        · exact h
        · omega
        · omega
      have cD : Box (∀ w', Ext w w' → Calls Tryd.prog 56 #[.string (s.extract 0 i)] w' fun e w'' => e = .returned (.tuple #[.int .i32 (s.data.toList.getD (i - 1) 0).toNat, .int .i64 1]) ∧ Ext w' w'') := ⟨fun w' hx => by
        have h := Tryd.utf8_DecodeLastRuneInString (s.extract 0 i) w' (by rw [ByteArray.size_extract]; omega) (HW.out.ext hx).u8
        rw [show (s.extract 0 i).data.toList = s.data.toList.take i by simp, hdl] at h
        exact h⟩
      have hnx : Box (¬ (s.data.toList.getD (i - 1) 0 = 43 ∨ s.data.toList.getD (i - 1) 0 = 45) → ∀ j, i - 1 ≤ j → j < s.data.toList.length → ¬ (s.data.toList.getD j 0 = 43 ∨ s.data.toList.getD j 0 = 45)) := ⟨fun h j hj hl => by
        by_cases e : j = i - 1
        · subst e; exact h
        · exact hno.out j (by omega) hl⟩
      have hyes : Box ((s.data.toList.getD (i - 1) 0 = 43 ∨ s.data.toList.getD (i - 1) 0 = 45) → lastS s.data.toList = ((i - 1 : Nat) : Int)) := ⟨fun h => lastS_at _ (i - 1) hil h fun j hj hl => hno.out j (by omega) hl⟩
      generalize s.data.toList.getD (i - 1) 0 = c at *
      have hE1 := hE.out
      have q1 : IntKind.i64.wrap ((i : Int) - 1) = ((i - 1 : Nat) : Int) := by rw [IntKind.wrap_i64]; omega
      have n1 : (i : Int) ≤ (s.size : Int) := by omega
      have hci := idx_sign c
      have cI2 : Box _ := ⟨fun w => cI.out c w hasc⟩
      generalize Lib.indexByte [43, 45] c = z at *
      clear hdl hmem
      by_cases hz : 0 ≤ z
      · have d3 : decide (0 ≤ z) = true := decide_eq_true hz
        have hf := Box.mk (hyes.out (hci.1 hz))
        clear hci hz
        go_wp2_with (first
          | (go_at_call 56; (with_reducible refine (cD.out _ hE1).mono ?_); rintro e w1 ⟨rfl, hb⟩; have hE1 := Ext.trans' hE1 hb)
          | (go_at_call 52; (with_reducible refine (cI2.out _).mono ?_); rintro e w' ⟨rfl, rfl⟩))
        go_ret
        exact ⟨ret_int hf.out.symm, hE1⟩
      · have d3 : decide (0 ≤ z) = false := decide_eq_false hz
        have hf := Box.mk (hnx.out (fun h => hz (hci.2 h)))
        clear hci hz
        go_wp2_with (first
          | (go_at_call 56; (with_reducible refine (cD.out _ hE1).mono ?_); rintro e w1 ⟨rfl, hb⟩; have hE1 := Ext.trans' hE1 hb)
          | (go_at_call 52; (with_reducible refine (cI2.out _).mono ?_); rintro e w' ⟨rfl, rfl⟩))
        go_roundw
        case rel => exact ⟨i - 1, by omega, by go_num, hf, ⟨hE1⟩⟩
        case measure => simp [intOf]; omega
    · obtain rfl : i = 0 := by omega
      have hf := Box.mk (lastS_none s.data.toList fun j hj => hno.out j (by omega) hj)
      have hE1 := hE.out
      go_wp2
      go_ret
      exact ⟨ret_int hf.out.symm, hE1⟩
end Go.Proofs.YtbnmnkmjokcmfaaDoor
