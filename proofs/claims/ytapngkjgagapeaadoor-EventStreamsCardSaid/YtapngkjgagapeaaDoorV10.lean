import Derived.Test.YtapngkjgagapeaaDoorV9
import Derived.Deep.CutRange
/- The reference's Parse of a line with six words, walked. -/
namespace Go.Proofs.YtapngkjgagapeaaDoor
open Go.RowKit

def ByPost (r : List UInt8) (w : World) (e : Ending) (w' : World) : Prop := ∃ a c, e = .returned (.slice a r.length c) ∧ By w' (.slice a r.length c) r ∧ Ext w w'
theorem wpAnyH_S {P : Program} {ops : Array Oper} {Q : Exit → Act → World → Prop} {md : Region.Mode} {S S' : World → Prop} (hSS : ∀ w, S' w → S w) : ∀ (fuel : Nat) (listed : Array Bool) (a : Act) (w : World), wpAnyH P md ops Q S' fuel listed a w → wpAnyH P md ops Q S fuel listed a w
  | 0, _, _, _, h => h
  | fuel + 1, _, _, _, h => ⟨h.1, fun i hi => wpOp_mono (fun a' w' h' => ⟨hSS _ h'.1, wpAnyH_S hSS fuel _ a' w' h'.2⟩) (h.2 i hi)⟩
/-- The kind that is set once the words before number j were looked at. -/
def kk (q j : Nat) : Nat := if q < j then q else 0
theorem kk_one (q : Nat) : kk q 1 = 0 := by unfold kk; split <;> omega
theorem kk_six (q : Nat) (h : q ≤ 5) : kk q 6 = q := by unfold kk; rw [if_pos (by omega)]
theorem kk_yes (q : Nat) : kk q (q + 1) = q := by unfold kk; rw [if_pos (by omega)]
theorem kk_no (q j : Nat) (h : j ≠ q) : kk q (j + 1) = kk q j := by
  unfold kk
  by_cases h1 : q < j
  · rw [if_pos h1, if_pos (by omega)]
  · rw [if_neg h1, if_neg (by omega)]
def St6 (w : World) (B : Nat) (a b c d e f : Value) : World := (((((w.setCell ⟨B, 0, none⟩ a).setCell ⟨B, 1, none⟩ b).setCell ⟨B, 2, none⟩ c).setCell ⟨B, 3, none⟩ d).setCell ⟨B, 4, none⟩ e).setCell ⟨B, 5, none⟩ f
theorem St6.heap {w : World} {B : Nat} {c0 c1 c2 c3 c4 c5 : Value} {T : TypeId} (h : w.heap[B]? = some (.cells #[c0, c1, c2, c3, c4, c5] T (0, 0))) (a b c d e f : Value) : (St6 w B a b c d e f).heap[B]? = some (.cells #[a, b, c, d, e, f] T (0, 0)) :=
  heap_setCell_same _ B 5 _ _ _ (heap_setCell_same _ B 4 _ _ _ (heap_setCell_same _ B 3 _ _ _ (heap_setCell_same _ B 2 _ _ _ (heap_setCell_same _ B 1 _ _ _ (heap_setCell_same w B 0 _ _ _ h)))))
theorem St6.ext {w0 w : World} (h : Ext w0 w) {B : Nat} (hB : w0.heap.size ≤ B) (a b c d e f : Value) : Ext w0 (St6 w B a b c d e f) := Ext.st6 h hB a b c d e f
theorem St6.far (w : World) (B : Nat) (a b c d e f : Value) (x : Addr) (h : B ≠ x.block) : (St6 w B a b c d e f).cell? x = w.cell? x := by
  unfold St6
  rw [World.cell?_setCell_far _ _ _ _ h, World.cell?_setCell_far _ _ _ _ h, World.cell?_setCell_far _ _ _ _ h, World.cell?_setCell_far _ _ _ _ h, World.cell?_setCell_far _ _ _ _ h, World.cell?_setCell_far _ _ _ _ h]
theorem St6.other (w : World) (B : Nat) (a b c d e f : Value) (x : Nat) (h : x ≠ B) : (St6 w B a b c d e f).heap[x]? = w.heap[x]? := by
  unfold St6
  rw [heap_setCell_other _ _ _ _ h, heap_setCell_other _ _ _ _ h, heap_setCell_other _ _ _ _ h, heap_setCell_other _ _ _ _ h, heap_setCell_other _ _ _ _ h, heap_setCell_other _ _ _ _ h]
/-- A block whose cells are no bytes is no block of bytes. -/
theorem By.st6 {w : World} {v : Value} {l : List UInt8} (hv : By w v l) {B : Nat} {cs : Array Value} {T : TypeId} (h : w.heap[B]? = some (.cells cs T (0, 0))) (hno : ∀ (i : Nat) (z : Int), cs[i]? ≠ some (.int .u8 z)) (a b c d e f : Value) : By (St6 w B a b c d e f) v l := by
  obtain ⟨p, q, h1, h2, h3, h4, h5⟩ := hv
  refine ⟨p, q, h1, h2, h3, h4, fun hn => ?_⟩
  obtain ⟨x, o, ha, hc⟩ := h5 hn
  refine ⟨x, o, ha, fun i hi => ?_⟩
  rw [St6.far]
  · exact hc i hi
  · intro e0
    have e1 : B = x := e0
    subst e1
    have h9 := hc i hi
    rw [Lib.cell_of_heap h] at h9
    exact hno _ _ h9
theorem zc_no (i : Nat) (z : Int) : (#[Value.int .i64 0, .string ⟨#[]⟩, .slice none 0 0, .int .u64 0, .int .u64 0, .int .u64 0] : Array Value)[i]? ≠ some (.int .u8 z) := by
  intro h
  match i, h with
  | 0, h => cases h
  | 1, h => cases h
  | 2, h => cases h
  | 3, h => cases h
  | 4, h => cases h
  | 5, h => cases h
  | _ + 6, h => cases h

theorem ne_of_vals {w : World} {g B : Nat} {x : ByteArray} {c1 c2 c3 c4 c5 : Value} {z : Int} {T : TypeId} (h : w.cell? ⟨g, 0, none⟩ = some (.string x)) (hE : w.heap[B]? = some (.cells #[.int .i64 z, c1, c2, c3, c4, c5] T (0, 0))) : B ≠ g := by
  intro e
  subst e
  rw [Lib.cell_of_heap hE] at h
  cases h
set_option maxRecDepth 100000 in
set_option maxHeartbeats 20000000 in
theorem rvp_six (s : ByteArray) (w : World) (x0 x1 x2 x3 x4 x5 x6 : ByteArray) (T N D q : Nat) (r4 r5 : List UInt8) (h6 : x6 = ⟨r4.toArray⟩) (z : ByteArray) (y t : Bool) (hq5 : q ≤ 5)
    (cS : Box (Calls Tryd.prog 36 #[.string s] (w.alloc (.cells #[.int .i64 0, .string ⟨#[]⟩, .slice none 0 0, .int .u64 0, .int .u64 0, .int .u64 0] 28)) fun e w' => ∃ v, e = .returned v ∧ w'.ownsRow (w.heap.size + 1) 9 1 v 6 [.string x0, .string x1, .string x2, .string x3, .string x4, .string x5] ∧ Ext (w.alloc (.cells #[.int .i64 0, .string ⟨#[]⟩, .slice none 0 0, .int .u64 0, .int .u64 0, .int .u64 0] 28)) w'))
    (cT : Box (∀ w, Calls Tryd.prog 37 #[.string x0] w fun e w' => e = .returned (.int .u64 T) ∧ Ext w w'))
    (cN : Box (∀ w, Calls Tryd.prog 38 #[.string x2] w fun e w' => e = .returned (.int .u64 N) ∧ Ext w w'))
    (cD : Box (∀ w, Calls Tryd.prog 37 #[.string x3] w fun e w' => e = .returned (.int .u64 D) ∧ Ext w w'))
    (cB4 : Box (∀ w, Calls Tryd.prog 39 #[.string x4] w (ByPost r4 w)))
    (cB5 : Box (∀ w, Calls Tryd.prog 39 #[.string x5] w (ByPost r5 w)))
    (hk : Box (∀ k, 1 ≤ k → k ≤ 5 → ((wordS k).toList == x1.toList) = decide (k = q)))
    (cV : Box (∀ a c w, Calls Tryd.prog 24 #[(.agg #[.int .i64 (q), .string x6, .slice a (r5.length) c, .int .u64 (N), .int .u64 (D), .int .u64 (T)])] w fun e w' => e = .returned (.bool y) ∧ Ext w w'))
    (cX : Box (y = true → ∀ a c w, By w (.slice a r5.length c) r5 → Calls Tryd.prog 18 #[(.agg #[.int .i64 (q), .string x6, .slice a (r5.length) c, .int .u64 (N), .int .u64 (D), .int .u64 (T)])] w fun e w' => e = .returned (.string z) ∧ Ext w w'))
    (ht : (z.toList == s.toList) = t) :
    Calls Tryd.prog 12 #[.string s] w fun e w' => if (y && t) = true then ∃ v', e = .returned (.tuple #[.agg #[.int .i64 q, .string x6, v', .int .u64 N, .int .u64 D, .int .u64 T], .bool true]) ∧ By w' v' r5 ∧ Ext w w' else e = .returned (.tuple #[(.agg #[.int .i64 0, .string ⟨#[]⟩, .slice none 0 0, .int .u64 0, .int .u64 0, .int .u64 0]), .bool false]) ∧ Ext w w' := by
  have hR := newblk w (.cells #[.int .i64 0, .string ⟨#[]⟩, .slice none 0 0, .int .u64 0, .int .u64 0, .int .u64 0] 28)
  have hx : Ext w (w.alloc (.cells #[.int .i64 0, .string ⟨#[]⟩, .slice none 0 0, .int .u64 0, .int .u64 0, .int .u64 0] 28)) := Ext.alloc (Below.refl _ _) _
  have hcvt : Box (∀ w' a c, By w' (.slice a r4.length c) r4 → (convert 24 9 (.slice a r4.length c)).run Tryd.prog w' = .ok (.string x6) w') := ⟨fun w' a c h => by rw [h6]; exact h.conv⟩
  have hT := Box.mk ht
  clear h6 ht
  go_enter Tryd.func12, Tryd.ntmps12
  go_upto_region 4 with (first
    | (go_at_call 36; (with_reducible refine cS.out.mono ?_); rintro e w1 ⟨v, rfl, ho, hb⟩; have hx := Ext.trans' hx hb; have hR := Ext.blk hb hR; obtain ⟨g, cap, rfl, hcap, s0, s1, s2, s3, s4, s5⟩ := row6 ho))
  clear ho
  go_cut [5] from 13 to 57 (fun s5 wx => ∃ (E : Nat) (a5 : Option Addr) (c5 : Nat), s5 = .pointer (some ⟨E, 0, none⟩) ∧ wx.heap[E]? = some (.cells #[.int .i64 (0), .string x6, .slice a5 r5.length c5, .int .u64 N, .int .u64 D, .int .u64 T] 28 (0, 0)) ∧ wx.heap[w.heap.size]? = some (.cells #[.int .i64 0, .string ⟨#[]⟩, .slice none 0 0, .int .u64 0, .int .u64 0, .int .u64 0] 28 (0, 0)) ∧ wx.cell? ⟨g, 1, none⟩ = some (.string x1) ∧ By wx (.slice a5 r5.length c5) r5 ∧ Ext w wx ∧ w.heap.size < E)
  case first =>
    have hb0 : Ext w1 w1.drew := Ext.drew1 (Below.refl _ _)
    have hx := Ext.trans' hx hb0
    have hR := Ext.blk hb0 hR
    have q0 := Ext.cell hb0 s0; have q1 := Ext.cell hb0 s1; have q2 := Ext.cell hb0 s2; have q3 := Ext.cell hb0 s3; have q4 := Ext.cell hb0 s4; have q5 := Ext.cell hb0 s5
    clear s0 s1 s2 s3 s4 s5
    obtain ⟨s0, s1, s2, s3, s4, s5⟩ := And.intro q0 (And.intro q1 (And.intro q2 (And.intro q3 (And.intro q4 q5))))
    clear q0 q1 q2 q3 q4 q5 hb0
    refine wp_region_held_drew (S := (fun w' => w'.cell? ⟨g, 0, none⟩ = some (.string x0) ∧ w'.cell? ⟨g, 2, none⟩ = some (.string x2) ∧ w'.cell? ⟨g, 3, none⟩ = some (.string x3) ∧ w'.cell? ⟨g, 4, none⟩ = some (.string x4) ∧ w'.cell? ⟨g, 5, none⟩ = some (.string x5))) (by kernel_rfl) ?_ (fun hHeld => ?_)
    · (try dsimp only); (exact ⟨s0, s2, s3, s4, s5⟩)
    refine takeD (i := 0) (d := (some 13)) (v := ?_) rfl (by kernel_rfl) (by kernel_rfl) (by kernel_rfl) (by kernel_rfl) (fun _ _ _ h => h) (Or.inl ⟨by kernel_rfl, ?rgy⟩) (by assumption) ?rgn
    case rgy => (intro w hSw; (try dsimp only at hSw); go_simp; (try with_reducible rfl))
    case rgn =>
      (try simp only [Act.put, List.setIfInBounds_toArray, List.set_cons_zero, List.set_cons_succ])
      refine takeD (i := 1) (d := (some 14)) (v := ?_) rfl (by kernel_rfl) (by kernel_rfl) (by kernel_rfl) (by kernel_rfl) (fun _ _ _ h => h) (Or.inl ⟨by kernel_rfl, ?rgy⟩) (by assumption) ?rgn
      case rgy => (intro w hSw; (try dsimp only at hSw); go_simp; (try with_reducible rfl))
      case rgn =>
        (try simp only [Act.put, List.setIfInBounds_toArray, List.set_cons_zero, List.set_cons_succ])
        refine takeD (i := 2) (d := (some 15)) (v := ?_) rfl (by kernel_rfl) (by kernel_rfl) (by kernel_rfl) (by kernel_rfl) (fun _ _ _ h => h) (Or.inl ⟨by kernel_rfl, ?rgy⟩) (by assumption) ?rgn
        case rgy => (intro w hSw; (try dsimp only at hSw); go_simp; (try with_reducible rfl))
        case rgn =>
          (try simp only [Act.put, List.setIfInBounds_toArray, List.set_cons_zero, List.set_cons_succ])
          refine takeD (i := 4) (d := (some 17)) (v := ?_) rfl (by kernel_rfl) (by kernel_rfl) (by kernel_rfl) (by kernel_rfl) (fun _ _ _ h => h) (Or.inl ⟨by kernel_rfl, ?rgy⟩) (by assumption) ?rgn
          case rgy => (intro w hSw; (try dsimp only at hSw); go_simp; (try with_reducible rfl))
          case rgn =>
            (try simp only [Act.put, List.setIfInBounds_toArray, List.set_cons_zero, List.set_cons_succ])
            refine takeD (i := 5) (d := (some 18)) (v := ?_) rfl (by kernel_rfl) (by kernel_rfl) (by kernel_rfl) (by kernel_rfl) (fun _ _ _ h => h) (Or.inl ⟨by kernel_rfl, ?rgy⟩) (by assumption) ?rgn
            case rgy => (intro w hSw; (try dsimp only at hSw); go_simp; (try with_reducible rfl))
            case rgn =>
              (try simp only [Act.put, List.setIfInBounds_toArray, List.set_cons_zero, List.set_cons_succ])
              refine takeD (i := 6) (d := (some 19)) (v := ?_) rfl (by kernel_rfl) (by kernel_rfl) (by kernel_rfl) (by kernel_rfl) (fun _ _ _ h => h) (Or.inl ⟨by kernel_rfl, ?rgy⟩) (by assumption) ?rgn
              case rgy => (intro w hSw; (try dsimp only at hSw); go_simp; (try with_reducible rfl))
              case rgn =>
                (try simp only [Act.put, List.setIfInBounds_toArray, List.set_cons_zero, List.set_cons_succ])
                refine takeD (i := 8) (d := (some 21)) (v := ?_) rfl (by kernel_rfl) (by kernel_rfl) (by kernel_rfl) (by kernel_rfl) (fun _ _ _ h => h) (Or.inl ⟨by kernel_rfl, ?rgy⟩) (by assumption) ?rgn
                case rgy => (intro w hSw; (try dsimp only at hSw); go_simp; (try with_reducible rfl))
                case rgn =>
                  (try simp only [Act.put, List.setIfInBounds_toArray, List.set_cons_zero, List.set_cons_succ])
                  refine takeD (i := 9) (d := (some 22)) (v := ?_) rfl (by kernel_rfl) (by kernel_rfl) (by kernel_rfl) (by kernel_rfl) (fun _ _ _ h => h) (Or.inl ⟨by kernel_rfl, ?rgy⟩) (by assumption) ?rgn
                  case rgy => (intro w hSw; (try dsimp only at hSw); go_simp; (try with_reducible rfl))
                  case rgn =>
                    (try simp only [Act.put, List.setIfInBounds_toArray, List.set_cons_zero, List.set_cons_succ])
                    refine takeD (i := 10) (d := (some 23)) (v := ?_) rfl (by kernel_rfl) (by kernel_rfl) (by kernel_rfl) (by kernel_rfl) (fun _ _ _ h => h) (Or.inl ⟨by kernel_rfl, ?rgy⟩) (by assumption) ?rgn
                    case rgy => (intro w hSw; (try dsimp only at hSw); go_simp; (try with_reducible rfl))
                    case rgn =>
                      (try simp only [Act.put, List.setIfInBounds_toArray, List.set_cons_zero, List.set_cons_succ])
                      refine takeD (i := 12) (d := (some 25)) (v := ?_) rfl (by kernel_rfl) (by kernel_rfl) (by kernel_rfl) (by kernel_rfl) (fun _ _ _ h => h) (Or.inl ⟨by kernel_rfl, ?rgy⟩) (by assumption) ?rgn
                      case rgy => (intro w hSw; (try dsimp only at hSw); go_simp; (try with_reducible rfl))
                      case rgn =>
                        (try simp only [Act.put, List.setIfInBounds_toArray, List.set_cons_zero, List.set_cons_succ])
                        refine takeD (i := 13) (d := (some 26)) (v := ?_) rfl (by kernel_rfl) (by kernel_rfl) (by kernel_rfl) (by kernel_rfl) (fun _ _ _ h => h) (Or.inl ⟨by kernel_rfl, ?rgy⟩) (by assumption) ?rgn
                        case rgy => (intro w hSw; (try dsimp only at hSw); go_simp; (try with_reducible rfl))
                        case rgn =>
                          (try simp only [Act.put, List.setIfInBounds_toArray, List.set_cons_zero, List.set_cons_succ])
                          refine takeD (i := 14) (d := (some 27)) (v := ?_) rfl (by kernel_rfl) (by kernel_rfl) (by kernel_rfl) (by kernel_rfl) (fun _ _ _ h => h) (Or.inl ⟨by kernel_rfl, ?rgy⟩) (by assumption) ?rgn
                          case rgy => (intro w hSw; (try dsimp only at hSw); go_simp; (try with_reducible rfl))
                          case rgn =>
                            (try simp only [Act.put, List.setIfInBounds_toArray, List.set_cons_zero, List.set_cons_succ])
                            refine takeD (i := 17) (d := (some 30)) (v := ?_) rfl (by kernel_rfl) (by kernel_rfl) (by kernel_rfl) (by kernel_rfl) (fun _ _ _ h => h) (Or.inl ⟨by kernel_rfl, ?rgy⟩) (by assumption) ?rgn
                            case rgy => (intro w hSw; (try dsimp only at hSw); go_simp; (try with_reducible rfl))
                            case rgn =>
                              (try simp only [Act.put, List.setIfInBounds_toArray, List.set_cons_zero, List.set_cons_succ])
                              refine takeD (i := 18) (d := (some 31)) (v := ?_) rfl (by kernel_rfl) (by kernel_rfl) (by kernel_rfl) (by kernel_rfl) (fun _ _ _ h => h) (Or.inl ⟨by kernel_rfl, ?rgy⟩) (by assumption) ?rgn
                              case rgy => (intro w hSw; (try dsimp only at hSw); go_simp; (try with_reducible rfl))
                              case rgn =>
                                (try simp only [Act.put, List.setIfInBounds_toArray, List.set_cons_zero, List.set_cons_succ])
                                refine takeD (i := 19) (d := (some 32)) (v := ?_) rfl (by kernel_rfl) (by kernel_rfl) (by kernel_rfl) (by kernel_rfl) (fun _ _ _ h => h) (Or.inl ⟨by kernel_rfl, ?rgy⟩) (by assumption) ?rgn
                                case rgy => (intro w hSw; (try dsimp only at hSw); go_simp; (try with_reducible rfl))
                                case rgn =>
                                  (try simp only [Act.put, List.setIfInBounds_toArray, List.set_cons_zero, List.set_cons_succ])
                                  refine wpAnyH_ready (rs := [3, 22]) (by kernel_rfl) (by simp) ?_
                                  refine AllReadyH.cons rfl (fun K hK => ?_) (AllReadyH.cons rfl (fun K hK => ?_) AllReadyH.nil)
                                  · skip
                                    go_simp
                                    (go_at_call 37; (with_reducible refine (cT.out _).mono ?_); rintro e w1 ⟨rfl, hb⟩; have hx := Ext.trans' hx hb; have hR := Ext.blk hb hR; have s0 := Ext.cell hb s0; have s1 := Ext.cell hb s1; have s2 := Ext.cell hb s2; have s3 := Ext.cell hb s3; have s4 := Ext.cell hb s4; have s5 := Ext.cell hb s5)
                                    (try go_wp2_with fail)
                                    refine hK.out _ _ ?_ (fun hHeld => ?_)
                                    · (try dsimp only); (exact ⟨s0, s2, s3, s4, s5⟩)
                                    clear hK K
                                    (try simp only [Act.put, List.setIfInBounds_toArray, List.set_cons_zero, List.set_cons_succ])
                                    refine wpAnyH_ready (rs := [7, 22]) (by kernel_rfl) (by simp) ?_
                                    refine AllReadyH.cons rfl (fun K hK => ?_) (AllReadyH.cons rfl (fun K hK => ?_) AllReadyH.nil)
                                    · skip
                                      go_simp
                                      (go_at_call 38; (with_reducible refine (cN.out _).mono ?_); rintro e w1 ⟨rfl, hb⟩; have hx := Ext.trans' hx hb; have hR := Ext.blk hb hR; have s0 := Ext.cell hb s0; have s1 := Ext.cell hb s1; have s2 := Ext.cell hb s2; have s3 := Ext.cell hb s3; have s4 := Ext.cell hb s4; have s5 := Ext.cell hb s5)
                                      (try go_wp2_with fail)
                                      refine hK.out _ _ ?_ (fun hHeld => ?_)
                                      · (try dsimp only); (exact ⟨s0, s2, s3, s4, s5⟩)
                                      clear hK K
                                      (try simp only [Act.put, List.setIfInBounds_toArray, List.set_cons_zero, List.set_cons_succ])
                                      refine wpAnyH_ready (rs := [11, 22]) (by kernel_rfl) (by simp) ?_
                                      refine AllReadyH.cons rfl (fun K hK => ?_) (AllReadyH.cons rfl (fun K hK => ?_) AllReadyH.nil)
                                      · skip
                                        go_simp
                                        (go_at_call 37; (with_reducible refine (cD.out _).mono ?_); rintro e w1 ⟨rfl, hb⟩; have hx := Ext.trans' hx hb; have hR := Ext.blk hb hR; have s0 := Ext.cell hb s0; have s1 := Ext.cell hb s1; have s2 := Ext.cell hb s2; have s3 := Ext.cell hb s3; have s4 := Ext.cell hb s4; have s5 := Ext.cell hb s5)
                                        (try go_wp2_with fail)
                                        refine hK.out _ _ ?_ (fun hHeld => ?_)
                                        · (try dsimp only); (exact ⟨s0, s2, s3, s4, s5⟩)
                                        clear hK K
                                        (try simp only [Act.put, List.setIfInBounds_toArray, List.set_cons_zero, List.set_cons_succ])
                                        refine wpAnyH_ready (rs := [15, 22]) (by kernel_rfl) (by simp) ?_
                                        refine AllReadyH.cons rfl (fun K hK => ?_) (AllReadyH.cons rfl (fun K hK => ?_) AllReadyH.nil)
                                        · skip
                                          go_simp
                                          (go_at_call 39; (with_reducible refine (cB4.out _).mono ?_); intro e w1 hpost; obtain ⟨a4, c4, rfl, hv4, hb⟩ := hpost; have hx := Ext.trans' hx hb; have hR := Ext.blk hb hR; have s0 := Ext.cell hb s0; have s1 := Ext.cell hb s1; have s2 := Ext.cell hb s2; have s3 := Ext.cell hb s3; have s4 := Ext.cell hb s4; have s5 := Ext.cell hb s5)
                                          (try go_wp2_with fail)
                                          refine hK.out _ _ ?_ (fun hHeld => ?_)
                                          · (try dsimp only); (exact ⟨s0, s2, s3, s4, s5⟩)
                                          clear hK K
                                          (try simp only [Act.put, List.setIfInBounds_toArray, List.set_cons_zero, List.set_cons_succ])
                                          refine wpAnyH_S (S' := fun w' => (w'.cell? ⟨g, 0, none⟩ = some (.string x0) ∧ w'.cell? ⟨g, 2, none⟩ = some (.string x2) ∧ w'.cell? ⟨g, 3, none⟩ = some (.string x3) ∧ w'.cell? ⟨g, 4, none⟩ = some (.string x4) ∧ w'.cell? ⟨g, 5, none⟩ = some (.string x5)) ∧ By w' (.slice a4 r4.length c4) r4) (fun _ h => h.1) _ _ _ _ ?_
                                          replace hHeld := And.intro hHeld hv4
                                          refine takeD (i := 16) (d := (some 29)) (v := ?_) rfl (by kernel_rfl) (by kernel_rfl) (by kernel_rfl) (by kernel_rfl) (fun _ _ _ h => h) (Or.inl ⟨by kernel_rfl, ?rgy⟩) (by assumption) ?rgn
                                          case rgy => (intro w hSw; (try dsimp only at hSw); have hcw := hcvt.out w _ _ hSw.2; go_simp; (try with_reducible rfl))
                                          case rgn =>
                                            (try simp only [Act.put, List.setIfInBounds_toArray, List.set_cons_zero, List.set_cons_succ])
                                            refine wpAnyH_ready (rs := [20, 22]) (by kernel_rfl) (by simp) ?_
                                            refine AllReadyH.cons rfl (fun K hK => ?_) (AllReadyH.cons rfl (fun K hK => ?_) AllReadyH.nil)
                                            · skip
                                              go_simp
                                              (go_at_call 39; (with_reducible refine (cB5.out _).mono ?_); intro e w1 hpost; obtain ⟨a5, c5, rfl, hv5, hb⟩ := hpost; have hx := Ext.trans' hx hb; have hR := Ext.blk hb hR; have s0 := Ext.cell hb s0; have s1 := Ext.cell hb s1; have s2 := Ext.cell hb s2; have s3 := Ext.cell hb s3; have s4 := Ext.cell hb s4; have s5 := Ext.cell hb s5; have hv4 := By.ext hb hv4)
                                              (try go_wp2_with fail)
                                              refine hK.out _ _ ?_ (fun hHeld => ?_)
                                              · (try dsimp only); (exact ⟨⟨s0, s2, s3, s4, s5⟩, hv4⟩)
                                              clear hK K
                                              (try simp only [Act.put, List.setIfInBounds_toArray, List.set_cons_zero, List.set_cons_succ])
                                              refine takeD (i := 21) (d := (some 34)) (v := ?_) rfl (by kernel_rfl) (by kernel_rfl) (by kernel_rfl) (by kernel_rfl) (fun _ _ _ h => h) (Or.inl ⟨by kernel_rfl, ?rgy⟩) (by assumption) ?rgn
                                              case rgy => (intro w hSw; (try dsimp only at hSw); go_simp; (try with_reducible rfl))
                                              case rgn =>
                                                (try simp only [Act.put, List.setIfInBounds_toArray, List.set_cons_zero, List.set_cons_succ])
                                                refine wpAnyH_ready (rs := [22]) (by kernel_rfl) (by simp) ?_
                                                refine AllReadyH.cons rfl (fun K hK => ?_) AllReadyH.nil
                                                have hb : Ext w1 (w1.alloc (.cells #[.int .i64 0, .string ⟨#[]⟩, .slice none 0 0, .int .u64 0, .int .u64 0, .int .u64 0] 28)) := Ext.alloc (Below.refl _ _) _
                                                have hE : (w1.alloc (.cells #[.int .i64 0, .string ⟨#[]⟩, .slice none 0 0, .int .u64 0, .int .u64 0, .int .u64 0] 28)).heap[w1.heap.size]? = _ := newblk w1 (.cells #[.int .i64 0, .string ⟨#[]⟩, .slice none 0 0, .int .u64 0, .int .u64 0, .int .u64 0] 28)
                                                have hwE : w.heap.size ≤ w1.heap.size := hx.size
                                                have hwE2 : w.heap.size < w1.heap.size := blk_lt hR
                                                go_simp
                                                refine hK.out _ _ ?_ (fun hHeld => ?_)
                                                · (try dsimp only); (exact ⟨⟨Ext.cell hb s0, Ext.cell hb s2, Ext.cell hb s3, Ext.cell hb s4, Ext.cell hb s5⟩, By.ext hb hv4⟩)
                                                clear hK K
                                                (try simp only [Act.put, List.setIfInBounds_toArray, List.set_cons_zero, List.set_cons_succ])
                                                refine wpAnyH_ready (rs := [23]) (by kernel_rfl) (by simp) ?_
                                                refine AllReadyH.cons rfl (fun K hK => ?_) AllReadyH.nil
                                                go_simp
                                                refine hK.out _ _ ?_ (fun hHeld => ?_)
                                                · (try dsimp only); (exact ⟨⟨Ext.cell (Ext.alloc (Below.refl _ _) _) s0, Ext.cell (Ext.alloc (Below.refl _ _) _) s2, Ext.cell (Ext.alloc (Below.refl _ _) _) s3, Ext.cell (Ext.alloc (Below.refl _ _) _) s4, Ext.cell (Ext.alloc (Below.refl _ _) _) s5⟩, By.ext (Ext.alloc (Below.refl _ _) _) hv4⟩)
                                                clear hK K
                                                (try simp only [Act.put, List.setIfInBounds_toArray, List.set_cons_zero, List.set_cons_succ])
                                                refine wpAnyH_done (by kernel_rfl) ?_ _
                                                go_wp2_with fail
                                                go_meet
                                                case rel =>
                                                  exact ⟨_, a5, c5, rfl, newblk _ _, Ext.blk (Ext.alloc (Below.refl _ _) _) hR, Ext.cell (Ext.alloc (Below.refl _ _) _) s1, By.ext (Ext.alloc (Below.refl _ _) _) hv5, Ext.alloc hx _, blk_lt hR⟩
                                            · skip
                                              have hb : Ext w1 (w1.alloc (.cells #[.int .i64 0, .string ⟨#[]⟩, .slice none 0 0, .int .u64 0, .int .u64 0, .int .u64 0] 28)) := Ext.alloc (Below.refl _ _) _
                                              have hE : (w1.alloc (.cells #[.int .i64 0, .string ⟨#[]⟩, .slice none 0 0, .int .u64 0, .int .u64 0, .int .u64 0] 28)).heap[w1.heap.size]? = _ := newblk w1 (.cells #[.int .i64 0, .string ⟨#[]⟩, .slice none 0 0, .int .u64 0, .int .u64 0, .int .u64 0] 28)
                                              have hwE : w.heap.size ≤ w1.heap.size := hx.size
                                              have hwE2 : w.heap.size < w1.heap.size := blk_lt hR
                                              go_simp
                                              refine hK.out _ _ ?_ (fun hHeld => ?_)
                                              · (try dsimp only); (exact ⟨⟨Ext.cell hb s0, Ext.cell hb s2, Ext.cell hb s3, Ext.cell hb s4, Ext.cell hb s5⟩, By.ext hb hv4⟩)
                                              clear hK K
                                              (try simp only [Act.put, List.setIfInBounds_toArray, List.set_cons_zero, List.set_cons_succ])
                                              have hx := Ext.trans' hx hb
                                              have hR := Ext.blk hb hR
                                              have s0 := Ext.cell hb s0
                                              have s1 := Ext.cell hb s1
                                              have s2 := Ext.cell hb s2
                                              have s3 := Ext.cell hb s3
                                              have s4 := Ext.cell hb s4
                                              have s5 := Ext.cell hb s5
                                              have hv4 := By.ext hb hv4
                                              generalize w1.heap.size = E at *
                                              refine wpAnyH_ready (rs := [20]) (by kernel_rfl) (by simp) ?_
                                              refine AllReadyH.cons rfl (fun K hK => ?_) AllReadyH.nil
                                              go_simp
                                              (go_at_call 39; (with_reducible refine (cB5.out _).mono ?_); intro e w1 hpost; obtain ⟨a5, c5, rfl, hv5, hb⟩ := hpost; have hx := Ext.trans' hx hb; have hR := Ext.blk hb hR; have s0 := Ext.cell hb s0; have s1 := Ext.cell hb s1; have s2 := Ext.cell hb s2; have s3 := Ext.cell hb s3; have s4 := Ext.cell hb s4; have s5 := Ext.cell hb s5; have hE := Ext.blk hb hE; have hv4 := By.ext hb hv4)
                                              (try go_wp2_with fail)
                                              refine hK.out _ _ ?_ (fun hHeld => ?_)
                                              · (try dsimp only); (exact ⟨⟨s0, s2, s3, s4, s5⟩, hv4⟩)
                                              clear hK K
                                              (try simp only [Act.put, List.setIfInBounds_toArray, List.set_cons_zero, List.set_cons_succ])
                                              refine takeD (i := 21) (d := (some 34)) (v := ?_) rfl (by kernel_rfl) (by kernel_rfl) (by kernel_rfl) (by kernel_rfl) (fun _ _ _ h => h) (Or.inl ⟨by kernel_rfl, ?rgy⟩) (by assumption) ?rgn
                                              case rgy => (intro w hSw; (try dsimp only at hSw); go_simp; (try with_reducible rfl))
                                              case rgn =>
                                                (try simp only [Act.put, List.setIfInBounds_toArray, List.set_cons_zero, List.set_cons_succ])
                                                have hgE := ne_of_vals s0 hE
                                                refine wpAnyH_ready (rs := [23]) (by kernel_rfl) (by simp) ?_
                                                refine AllReadyH.cons rfl (fun K hK => ?_) AllReadyH.nil
                                                obtain ⟨e0, e1, e2, e3, e4, e5⟩ := blk6 hE
                                                obtain ⟨f0, f1, f2, f3, f4, f5⟩ := blk6f hE
                                                go_simp
                                                clear e0 e1 e2 e3 e4 e5 f0 f1 f2 f3 f4 f5
                                                refine hK.out _ _ ?_ (fun hHeld => ?_)
                                                · (try dsimp only); (exact ⟨⟨(St6.far w1 E (.int .i64 0) (.string x6) (.slice a5 r5.length c5) (.int .u64 N) (.int .u64 D) (.int .u64 T) ⟨g, 0, none⟩ hgE).trans s0, (St6.far w1 E (.int .i64 0) (.string x6) (.slice a5 r5.length c5) (.int .u64 N) (.int .u64 D) (.int .u64 T) ⟨g, 2, none⟩ hgE).trans s2, (St6.far w1 E (.int .i64 0) (.string x6) (.slice a5 r5.length c5) (.int .u64 N) (.int .u64 D) (.int .u64 T) ⟨g, 3, none⟩ hgE).trans s3, (St6.far w1 E (.int .i64 0) (.string x6) (.slice a5 r5.length c5) (.int .u64 N) (.int .u64 D) (.int .u64 T) ⟨g, 4, none⟩ hgE).trans s4, (St6.far w1 E (.int .i64 0) (.string x6) (.slice a5 r5.length c5) (.int .u64 N) (.int .u64 D) (.int .u64 T) ⟨g, 5, none⟩ hgE).trans s5⟩, By.st6 hv4 hE zc_no (.int .i64 0) (.string x6) (.slice a5 r5.length c5) (.int .u64 N) (.int .u64 D) (.int .u64 T)⟩)
                                                clear hK K
                                                (try simp only [Act.put, List.setIfInBounds_toArray, List.set_cons_zero, List.set_cons_succ])
                                                refine wpAnyH_done (by kernel_rfl) ?_ _
                                                go_wp2_with fail
                                                go_meet
                                                case rel =>
                                                  exact ⟨E, a5, c5, rfl, St6.heap hE (.int .i64 0) (.string x6) (.slice a5 r5.length c5) (.int .u64 N) (.int .u64 D) (.int .u64 T), (St6.other w1 E (.int .i64 0) (.string x6) (.slice a5 r5.length c5) (.int .u64 N) (.int .u64 D) (.int .u64 T) _ (by omega)).trans hR, (St6.far w1 E (.int .i64 0) (.string x6) (.slice a5 r5.length c5) (.int .u64 N) (.int .u64 D) (.int .u64 T) ⟨g, 1, none⟩ hgE).trans s1, By.st6 hv5 hE zc_no (.int .i64 0) (.string x6) (.slice a5 r5.length c5) (.int .u64 N) (.int .u64 D) (.int .u64 T), St6.ext hx hwE (.int .i64 0) (.string x6) (.slice a5 r5.length c5) (.int .u64 N) (.int .u64 D) (.int .u64 T), hwE2⟩
                                        · skip
                                          have hb : Ext w1 (w1.alloc (.cells #[.int .i64 0, .string ⟨#[]⟩, .slice none 0 0, .int .u64 0, .int .u64 0, .int .u64 0] 28)) := Ext.alloc (Below.refl _ _) _
                                          have hE : (w1.alloc (.cells #[.int .i64 0, .string ⟨#[]⟩, .slice none 0 0, .int .u64 0, .int .u64 0, .int .u64 0] 28)).heap[w1.heap.size]? = _ := newblk w1 (.cells #[.int .i64 0, .string ⟨#[]⟩, .slice none 0 0, .int .u64 0, .int .u64 0, .int .u64 0] 28)
                                          have hwE : w.heap.size ≤ w1.heap.size := hx.size
                                          have hwE2 : w.heap.size < w1.heap.size := blk_lt hR
                                          go_simp
                                          refine hK.out _ _ ?_ (fun hHeld => ?_)
                                          · (try dsimp only); (exact ⟨Ext.cell hb s0, Ext.cell hb s2, Ext.cell hb s3, Ext.cell hb s4, Ext.cell hb s5⟩)
                                          clear hK K
                                          (try simp only [Act.put, List.setIfInBounds_toArray, List.set_cons_zero, List.set_cons_succ])
                                          have hx := Ext.trans' hx hb
                                          have hR := Ext.blk hb hR
                                          have s0 := Ext.cell hb s0
                                          have s1 := Ext.cell hb s1
                                          have s2 := Ext.cell hb s2
                                          have s3 := Ext.cell hb s3
                                          have s4 := Ext.cell hb s4
                                          have s5 := Ext.cell hb s5
                                          generalize w1.heap.size = E at *
                                          refine wpAnyH_ready (rs := [15]) (by kernel_rfl) (by simp) ?_
                                          refine AllReadyH.cons rfl (fun K hK => ?_) AllReadyH.nil
                                          go_simp
                                          (go_at_call 39; (with_reducible refine (cB4.out _).mono ?_); intro e w1 hpost; obtain ⟨a4, c4, rfl, hv4, hb⟩ := hpost; have hx := Ext.trans' hx hb; have hR := Ext.blk hb hR; have s0 := Ext.cell hb s0; have s1 := Ext.cell hb s1; have s2 := Ext.cell hb s2; have s3 := Ext.cell hb s3; have s4 := Ext.cell hb s4; have s5 := Ext.cell hb s5; have hE := Ext.blk hb hE)
                                          (try go_wp2_with fail)
                                          refine hK.out _ _ ?_ (fun hHeld => ?_)
                                          · (try dsimp only); (exact ⟨s0, s2, s3, s4, s5⟩)
                                          clear hK K
                                          (try simp only [Act.put, List.setIfInBounds_toArray, List.set_cons_zero, List.set_cons_succ])
                                          refine wpAnyH_S (S' := fun w' => (w'.cell? ⟨g, 0, none⟩ = some (.string x0) ∧ w'.cell? ⟨g, 2, none⟩ = some (.string x2) ∧ w'.cell? ⟨g, 3, none⟩ = some (.string x3) ∧ w'.cell? ⟨g, 4, none⟩ = some (.string x4) ∧ w'.cell? ⟨g, 5, none⟩ = some (.string x5)) ∧ By w' (.slice a4 r4.length c4) r4) (fun _ h => h.1) _ _ _ _ ?_
                                          replace hHeld := And.intro hHeld hv4
                                          refine takeD (i := 16) (d := (some 29)) (v := ?_) rfl (by kernel_rfl) (by kernel_rfl) (by kernel_rfl) (by kernel_rfl) (fun _ _ _ h => h) (Or.inl ⟨by kernel_rfl, ?rgy⟩) (by assumption) ?rgn
                                          case rgy => (intro w hSw; (try dsimp only at hSw); have hcw := hcvt.out w _ _ hSw.2; go_simp; (try with_reducible rfl))
                                          case rgn =>
                                            (try simp only [Act.put, List.setIfInBounds_toArray, List.set_cons_zero, List.set_cons_succ])
                                            refine wpAnyH_ready (rs := [20]) (by kernel_rfl) (by simp) ?_
                                            refine AllReadyH.cons rfl (fun K hK => ?_) AllReadyH.nil
                                            go_simp
                                            (go_at_call 39; (with_reducible refine (cB5.out _).mono ?_); intro e w1 hpost; obtain ⟨a5, c5, rfl, hv5, hb⟩ := hpost; have hx := Ext.trans' hx hb; have hR := Ext.blk hb hR; have s0 := Ext.cell hb s0; have s1 := Ext.cell hb s1; have s2 := Ext.cell hb s2; have s3 := Ext.cell hb s3; have s4 := Ext.cell hb s4; have s5 := Ext.cell hb s5; have hE := Ext.blk hb hE; have hv4 := By.ext hb hv4)
                                            (try go_wp2_with fail)
                                            refine hK.out _ _ ?_ (fun hHeld => ?_)
                                            · (try dsimp only); (exact ⟨⟨s0, s2, s3, s4, s5⟩, hv4⟩)
                                            clear hK K
                                            (try simp only [Act.put, List.setIfInBounds_toArray, List.set_cons_zero, List.set_cons_succ])
                                            refine takeD (i := 21) (d := (some 34)) (v := ?_) rfl (by kernel_rfl) (by kernel_rfl) (by kernel_rfl) (by kernel_rfl) (fun _ _ _ h => h) (Or.inl ⟨by kernel_rfl, ?rgy⟩) (by assumption) ?rgn
                                            case rgy => (intro w hSw; (try dsimp only at hSw); go_simp; (try with_reducible rfl))
                                            case rgn =>
                                              (try simp only [Act.put, List.setIfInBounds_toArray, List.set_cons_zero, List.set_cons_succ])
                                              have hgE := ne_of_vals s0 hE
                                              refine wpAnyH_ready (rs := [23]) (by kernel_rfl) (by simp) ?_
                                              refine AllReadyH.cons rfl (fun K hK => ?_) AllReadyH.nil
                                              obtain ⟨e0, e1, e2, e3, e4, e5⟩ := blk6 hE
                                              obtain ⟨f0, f1, f2, f3, f4, f5⟩ := blk6f hE
                                              go_simp
                                              clear e0 e1 e2 e3 e4 e5 f0 f1 f2 f3 f4 f5
                                              refine hK.out _ _ ?_ (fun hHeld => ?_)
                                              · (try dsimp only); (exact ⟨⟨(St6.far w1 E (.int .i64 0) (.string x6) (.slice a5 r5.length c5) (.int .u64 N) (.int .u64 D) (.int .u64 T) ⟨g, 0, none⟩ hgE).trans s0, (St6.far w1 E (.int .i64 0) (.string x6) (.slice a5 r5.length c5) (.int .u64 N) (.int .u64 D) (.int .u64 T) ⟨g, 2, none⟩ hgE).trans s2, (St6.far w1 E (.int .i64 0) (.string x6) (.slice a5 r5.length c5) (.int .u64 N) (.int .u64 D) (.int .u64 T) ⟨g, 3, none⟩ hgE).trans s3, (St6.far w1 E (.int .i64 0) (.string x6) (.slice a5 r5.length c5) (.int .u64 N) (.int .u64 D) (.int .u64 T) ⟨g, 4, none⟩ hgE).trans s4, (St6.far w1 E (.int .i64 0) (.string x6) (.slice a5 r5.length c5) (.int .u64 N) (.int .u64 D) (.int .u64 T) ⟨g, 5, none⟩ hgE).trans s5⟩, By.st6 hv4 hE zc_no (.int .i64 0) (.string x6) (.slice a5 r5.length c5) (.int .u64 N) (.int .u64 D) (.int .u64 T)⟩)
                                              clear hK K
                                              (try simp only [Act.put, List.setIfInBounds_toArray, List.set_cons_zero, List.set_cons_succ])
                                              refine wpAnyH_done (by kernel_rfl) ?_ _
                                              go_wp2_with fail
                                              go_meet
                                              case rel =>
                                                exact ⟨E, a5, c5, rfl, St6.heap hE (.int .i64 0) (.string x6) (.slice a5 r5.length c5) (.int .u64 N) (.int .u64 D) (.int .u64 T), (St6.other w1 E (.int .i64 0) (.string x6) (.slice a5 r5.length c5) (.int .u64 N) (.int .u64 D) (.int .u64 T) _ (by omega)).trans hR, (St6.far w1 E (.int .i64 0) (.string x6) (.slice a5 r5.length c5) (.int .u64 N) (.int .u64 D) (.int .u64 T) ⟨g, 1, none⟩ hgE).trans s1, By.st6 hv5 hE zc_no (.int .i64 0) (.string x6) (.slice a5 r5.length c5) (.int .u64 N) (.int .u64 D) (.int .u64 T), St6.ext hx hwE (.int .i64 0) (.string x6) (.slice a5 r5.length c5) (.int .u64 N) (.int .u64 D) (.int .u64 T), hwE2⟩
                                      · skip
                                        have hb : Ext w1 (w1.alloc (.cells #[.int .i64 0, .string ⟨#[]⟩, .slice none 0 0, .int .u64 0, .int .u64 0, .int .u64 0] 28)) := Ext.alloc (Below.refl _ _) _
                                        have hE : (w1.alloc (.cells #[.int .i64 0, .string ⟨#[]⟩, .slice none 0 0, .int .u64 0, .int .u64 0, .int .u64 0] 28)).heap[w1.heap.size]? = _ := newblk w1 (.cells #[.int .i64 0, .string ⟨#[]⟩, .slice none 0 0, .int .u64 0, .int .u64 0, .int .u64 0] 28)
                                        have hwE : w.heap.size ≤ w1.heap.size := hx.size
                                        have hwE2 : w.heap.size < w1.heap.size := blk_lt hR
                                        go_simp
                                        refine hK.out _ _ ?_ (fun hHeld => ?_)
                                        · (try dsimp only); (exact ⟨Ext.cell hb s0, Ext.cell hb s2, Ext.cell hb s3, Ext.cell hb s4, Ext.cell hb s5⟩)
                                        clear hK K
                                        (try simp only [Act.put, List.setIfInBounds_toArray, List.set_cons_zero, List.set_cons_succ])
                                        have hx := Ext.trans' hx hb
                                        have hR := Ext.blk hb hR
                                        have s0 := Ext.cell hb s0
                                        have s1 := Ext.cell hb s1
                                        have s2 := Ext.cell hb s2
                                        have s3 := Ext.cell hb s3
                                        have s4 := Ext.cell hb s4
                                        have s5 := Ext.cell hb s5
                                        generalize w1.heap.size = E at *
                                        refine wpAnyH_ready (rs := [11]) (by kernel_rfl) (by simp) ?_
                                        refine AllReadyH.cons rfl (fun K hK => ?_) AllReadyH.nil
                                        go_simp
                                        (go_at_call 37; (with_reducible refine (cD.out _).mono ?_); rintro e w1 ⟨rfl, hb⟩; have hx := Ext.trans' hx hb; have hR := Ext.blk hb hR; have s0 := Ext.cell hb s0; have s1 := Ext.cell hb s1; have s2 := Ext.cell hb s2; have s3 := Ext.cell hb s3; have s4 := Ext.cell hb s4; have s5 := Ext.cell hb s5; have hE := Ext.blk hb hE)
                                        (try go_wp2_with fail)
                                        refine hK.out _ _ ?_ (fun hHeld => ?_)
                                        · (try dsimp only); (exact ⟨s0, s2, s3, s4, s5⟩)
                                        clear hK K
                                        (try simp only [Act.put, List.setIfInBounds_toArray, List.set_cons_zero, List.set_cons_succ])
                                        refine wpAnyH_ready (rs := [15]) (by kernel_rfl) (by simp) ?_
                                        refine AllReadyH.cons rfl (fun K hK => ?_) AllReadyH.nil
                                        go_simp
                                        (go_at_call 39; (with_reducible refine (cB4.out _).mono ?_); intro e w1 hpost; obtain ⟨a4, c4, rfl, hv4, hb⟩ := hpost; have hx := Ext.trans' hx hb; have hR := Ext.blk hb hR; have s0 := Ext.cell hb s0; have s1 := Ext.cell hb s1; have s2 := Ext.cell hb s2; have s3 := Ext.cell hb s3; have s4 := Ext.cell hb s4; have s5 := Ext.cell hb s5; have hE := Ext.blk hb hE)
                                        (try go_wp2_with fail)
                                        refine hK.out _ _ ?_ (fun hHeld => ?_)
                                        · (try dsimp only); (exact ⟨s0, s2, s3, s4, s5⟩)
                                        clear hK K
                                        (try simp only [Act.put, List.setIfInBounds_toArray, List.set_cons_zero, List.set_cons_succ])
                                        refine wpAnyH_S (S' := fun w' => (w'.cell? ⟨g, 0, none⟩ = some (.string x0) ∧ w'.cell? ⟨g, 2, none⟩ = some (.string x2) ∧ w'.cell? ⟨g, 3, none⟩ = some (.string x3) ∧ w'.cell? ⟨g, 4, none⟩ = some (.string x4) ∧ w'.cell? ⟨g, 5, none⟩ = some (.string x5)) ∧ By w' (.slice a4 r4.length c4) r4) (fun _ h => h.1) _ _ _ _ ?_
                                        replace hHeld := And.intro hHeld hv4
                                        refine takeD (i := 16) (d := (some 29)) (v := ?_) rfl (by kernel_rfl) (by kernel_rfl) (by kernel_rfl) (by kernel_rfl) (fun _ _ _ h => h) (Or.inl ⟨by kernel_rfl, ?rgy⟩) (by assumption) ?rgn
                                        case rgy => (intro w hSw; (try dsimp only at hSw); have hcw := hcvt.out w _ _ hSw.2; go_simp; (try with_reducible rfl))
                                        case rgn =>
                                          (try simp only [Act.put, List.setIfInBounds_toArray, List.set_cons_zero, List.set_cons_succ])
                                          refine wpAnyH_ready (rs := [20]) (by kernel_rfl) (by simp) ?_
                                          refine AllReadyH.cons rfl (fun K hK => ?_) AllReadyH.nil
                                          go_simp
                                          (go_at_call 39; (with_reducible refine (cB5.out _).mono ?_); intro e w1 hpost; obtain ⟨a5, c5, rfl, hv5, hb⟩ := hpost; have hx := Ext.trans' hx hb; have hR := Ext.blk hb hR; have s0 := Ext.cell hb s0; have s1 := Ext.cell hb s1; have s2 := Ext.cell hb s2; have s3 := Ext.cell hb s3; have s4 := Ext.cell hb s4; have s5 := Ext.cell hb s5; have hE := Ext.blk hb hE; have hv4 := By.ext hb hv4)
                                          (try go_wp2_with fail)
                                          refine hK.out _ _ ?_ (fun hHeld => ?_)
                                          · (try dsimp only); (exact ⟨⟨s0, s2, s3, s4, s5⟩, hv4⟩)
                                          clear hK K
                                          (try simp only [Act.put, List.setIfInBounds_toArray, List.set_cons_zero, List.set_cons_succ])
                                          refine takeD (i := 21) (d := (some 34)) (v := ?_) rfl (by kernel_rfl) (by kernel_rfl) (by kernel_rfl) (by kernel_rfl) (fun _ _ _ h => h) (Or.inl ⟨by kernel_rfl, ?rgy⟩) (by assumption) ?rgn
                                          case rgy => (intro w hSw; (try dsimp only at hSw); go_simp; (try with_reducible rfl))
                                          case rgn =>
                                            (try simp only [Act.put, List.setIfInBounds_toArray, List.set_cons_zero, List.set_cons_succ])
                                            have hgE := ne_of_vals s0 hE
                                            refine wpAnyH_ready (rs := [23]) (by kernel_rfl) (by simp) ?_
                                            refine AllReadyH.cons rfl (fun K hK => ?_) AllReadyH.nil
                                            obtain ⟨e0, e1, e2, e3, e4, e5⟩ := blk6 hE
                                            obtain ⟨f0, f1, f2, f3, f4, f5⟩ := blk6f hE
                                            go_simp
                                            clear e0 e1 e2 e3 e4 e5 f0 f1 f2 f3 f4 f5
                                            refine hK.out _ _ ?_ (fun hHeld => ?_)
                                            · (try dsimp only); (exact ⟨⟨(St6.far w1 E (.int .i64 0) (.string x6) (.slice a5 r5.length c5) (.int .u64 N) (.int .u64 D) (.int .u64 T) ⟨g, 0, none⟩ hgE).trans s0, (St6.far w1 E (.int .i64 0) (.string x6) (.slice a5 r5.length c5) (.int .u64 N) (.int .u64 D) (.int .u64 T) ⟨g, 2, none⟩ hgE).trans s2, (St6.far w1 E (.int .i64 0) (.string x6) (.slice a5 r5.length c5) (.int .u64 N) (.int .u64 D) (.int .u64 T) ⟨g, 3, none⟩ hgE).trans s3, (St6.far w1 E (.int .i64 0) (.string x6) (.slice a5 r5.length c5) (.int .u64 N) (.int .u64 D) (.int .u64 T) ⟨g, 4, none⟩ hgE).trans s4, (St6.far w1 E (.int .i64 0) (.string x6) (.slice a5 r5.length c5) (.int .u64 N) (.int .u64 D) (.int .u64 T) ⟨g, 5, none⟩ hgE).trans s5⟩, By.st6 hv4 hE zc_no (.int .i64 0) (.string x6) (.slice a5 r5.length c5) (.int .u64 N) (.int .u64 D) (.int .u64 T)⟩)
                                            clear hK K
                                            (try simp only [Act.put, List.setIfInBounds_toArray, List.set_cons_zero, List.set_cons_succ])
                                            refine wpAnyH_done (by kernel_rfl) ?_ _
                                            go_wp2_with fail
                                            go_meet
                                            case rel =>
                                              exact ⟨E, a5, c5, rfl, St6.heap hE (.int .i64 0) (.string x6) (.slice a5 r5.length c5) (.int .u64 N) (.int .u64 D) (.int .u64 T), (St6.other w1 E (.int .i64 0) (.string x6) (.slice a5 r5.length c5) (.int .u64 N) (.int .u64 D) (.int .u64 T) _ (by omega)).trans hR, (St6.far w1 E (.int .i64 0) (.string x6) (.slice a5 r5.length c5) (.int .u64 N) (.int .u64 D) (.int .u64 T) ⟨g, 1, none⟩ hgE).trans s1, By.st6 hv5 hE zc_no (.int .i64 0) (.string x6) (.slice a5 r5.length c5) (.int .u64 N) (.int .u64 D) (.int .u64 T), St6.ext hx hwE (.int .i64 0) (.string x6) (.slice a5 r5.length c5) (.int .u64 N) (.int .u64 D) (.int .u64 T), hwE2⟩
                                    · skip
                                      have hb : Ext w1 (w1.alloc (.cells #[.int .i64 0, .string ⟨#[]⟩, .slice none 0 0, .int .u64 0, .int .u64 0, .int .u64 0] 28)) := Ext.alloc (Below.refl _ _) _
                                      have hE : (w1.alloc (.cells #[.int .i64 0, .string ⟨#[]⟩, .slice none 0 0, .int .u64 0, .int .u64 0, .int .u64 0] 28)).heap[w1.heap.size]? = _ := newblk w1 (.cells #[.int .i64 0, .string ⟨#[]⟩, .slice none 0 0, .int .u64 0, .int .u64 0, .int .u64 0] 28)
                                      have hwE : w.heap.size ≤ w1.heap.size := hx.size
                                      have hwE2 : w.heap.size < w1.heap.size := blk_lt hR
                                      go_simp
                                      refine hK.out _ _ ?_ (fun hHeld => ?_)
                                      · (try dsimp only); (exact ⟨Ext.cell hb s0, Ext.cell hb s2, Ext.cell hb s3, Ext.cell hb s4, Ext.cell hb s5⟩)
                                      clear hK K
                                      (try simp only [Act.put, List.setIfInBounds_toArray, List.set_cons_zero, List.set_cons_succ])
                                      have hx := Ext.trans' hx hb
                                      have hR := Ext.blk hb hR
                                      have s0 := Ext.cell hb s0
                                      have s1 := Ext.cell hb s1
                                      have s2 := Ext.cell hb s2
                                      have s3 := Ext.cell hb s3
                                      have s4 := Ext.cell hb s4
                                      have s5 := Ext.cell hb s5
                                      generalize w1.heap.size = E at *
                                      refine wpAnyH_ready (rs := [7]) (by kernel_rfl) (by simp) ?_
                                      refine AllReadyH.cons rfl (fun K hK => ?_) AllReadyH.nil
                                      go_simp
                                      (go_at_call 38; (with_reducible refine (cN.out _).mono ?_); rintro e w1 ⟨rfl, hb⟩; have hx := Ext.trans' hx hb; have hR := Ext.blk hb hR; have s0 := Ext.cell hb s0; have s1 := Ext.cell hb s1; have s2 := Ext.cell hb s2; have s3 := Ext.cell hb s3; have s4 := Ext.cell hb s4; have s5 := Ext.cell hb s5; have hE := Ext.blk hb hE)
                                      (try go_wp2_with fail)
                                      refine hK.out _ _ ?_ (fun hHeld => ?_)
                                      · (try dsimp only); (exact ⟨s0, s2, s3, s4, s5⟩)
                                      clear hK K
                                      (try simp only [Act.put, List.setIfInBounds_toArray, List.set_cons_zero, List.set_cons_succ])
                                      refine wpAnyH_ready (rs := [11]) (by kernel_rfl) (by simp) ?_
                                      refine AllReadyH.cons rfl (fun K hK => ?_) AllReadyH.nil
                                      go_simp
                                      (go_at_call 37; (with_reducible refine (cD.out _).mono ?_); rintro e w1 ⟨rfl, hb⟩; have hx := Ext.trans' hx hb; have hR := Ext.blk hb hR; have s0 := Ext.cell hb s0; have s1 := Ext.cell hb s1; have s2 := Ext.cell hb s2; have s3 := Ext.cell hb s3; have s4 := Ext.cell hb s4; have s5 := Ext.cell hb s5; have hE := Ext.blk hb hE)
                                      (try go_wp2_with fail)
                                      refine hK.out _ _ ?_ (fun hHeld => ?_)
                                      · (try dsimp only); (exact ⟨s0, s2, s3, s4, s5⟩)
                                      clear hK K
                                      (try simp only [Act.put, List.setIfInBounds_toArray, List.set_cons_zero, List.set_cons_succ])
                                      refine wpAnyH_ready (rs := [15]) (by kernel_rfl) (by simp) ?_
                                      refine AllReadyH.cons rfl (fun K hK => ?_) AllReadyH.nil
                                      go_simp
                                      (go_at_call 39; (with_reducible refine (cB4.out _).mono ?_); intro e w1 hpost; obtain ⟨a4, c4, rfl, hv4, hb⟩ := hpost; have hx := Ext.trans' hx hb; have hR := Ext.blk hb hR; have s0 := Ext.cell hb s0; have s1 := Ext.cell hb s1; have s2 := Ext.cell hb s2; have s3 := Ext.cell hb s3; have s4 := Ext.cell hb s4; have s5 := Ext.cell hb s5; have hE := Ext.blk hb hE)
                                      (try go_wp2_with fail)
                                      refine hK.out _ _ ?_ (fun hHeld => ?_)
                                      · (try dsimp only); (exact ⟨s0, s2, s3, s4, s5⟩)
                                      clear hK K
                                      (try simp only [Act.put, List.setIfInBounds_toArray, List.set_cons_zero, List.set_cons_succ])
                                      refine wpAnyH_S (S' := fun w' => (w'.cell? ⟨g, 0, none⟩ = some (.string x0) ∧ w'.cell? ⟨g, 2, none⟩ = some (.string x2) ∧ w'.cell? ⟨g, 3, none⟩ = some (.string x3) ∧ w'.cell? ⟨g, 4, none⟩ = some (.string x4) ∧ w'.cell? ⟨g, 5, none⟩ = some (.string x5)) ∧ By w' (.slice a4 r4.length c4) r4) (fun _ h => h.1) _ _ _ _ ?_
                                      replace hHeld := And.intro hHeld hv4
                                      refine takeD (i := 16) (d := (some 29)) (v := ?_) rfl (by kernel_rfl) (by kernel_rfl) (by kernel_rfl) (by kernel_rfl) (fun _ _ _ h => h) (Or.inl ⟨by kernel_rfl, ?rgy⟩) (by assumption) ?rgn
                                      case rgy => (intro w hSw; (try dsimp only at hSw); have hcw := hcvt.out w _ _ hSw.2; go_simp; (try with_reducible rfl))
                                      case rgn =>
                                        (try simp only [Act.put, List.setIfInBounds_toArray, List.set_cons_zero, List.set_cons_succ])
                                        refine wpAnyH_ready (rs := [20]) (by kernel_rfl) (by simp) ?_
                                        refine AllReadyH.cons rfl (fun K hK => ?_) AllReadyH.nil
                                        go_simp
                                        (go_at_call 39; (with_reducible refine (cB5.out _).mono ?_); intro e w1 hpost; obtain ⟨a5, c5, rfl, hv5, hb⟩ := hpost; have hx := Ext.trans' hx hb; have hR := Ext.blk hb hR; have s0 := Ext.cell hb s0; have s1 := Ext.cell hb s1; have s2 := Ext.cell hb s2; have s3 := Ext.cell hb s3; have s4 := Ext.cell hb s4; have s5 := Ext.cell hb s5; have hE := Ext.blk hb hE; have hv4 := By.ext hb hv4)
                                        (try go_wp2_with fail)
                                        refine hK.out _ _ ?_ (fun hHeld => ?_)
                                        · (try dsimp only); (exact ⟨⟨s0, s2, s3, s4, s5⟩, hv4⟩)
                                        clear hK K
                                        (try simp only [Act.put, List.setIfInBounds_toArray, List.set_cons_zero, List.set_cons_succ])
                                        refine takeD (i := 21) (d := (some 34)) (v := ?_) rfl (by kernel_rfl) (by kernel_rfl) (by kernel_rfl) (by kernel_rfl) (fun _ _ _ h => h) (Or.inl ⟨by kernel_rfl, ?rgy⟩) (by assumption) ?rgn
                                        case rgy => (intro w hSw; (try dsimp only at hSw); go_simp; (try with_reducible rfl))
                                        case rgn =>
                                          (try simp only [Act.put, List.setIfInBounds_toArray, List.set_cons_zero, List.set_cons_succ])
                                          have hgE := ne_of_vals s0 hE
                                          refine wpAnyH_ready (rs := [23]) (by kernel_rfl) (by simp) ?_
                                          refine AllReadyH.cons rfl (fun K hK => ?_) AllReadyH.nil
                                          obtain ⟨e0, e1, e2, e3, e4, e5⟩ := blk6 hE
                                          obtain ⟨f0, f1, f2, f3, f4, f5⟩ := blk6f hE
                                          go_simp
                                          clear e0 e1 e2 e3 e4 e5 f0 f1 f2 f3 f4 f5
                                          refine hK.out _ _ ?_ (fun hHeld => ?_)
                                          · (try dsimp only); (exact ⟨⟨(St6.far w1 E (.int .i64 0) (.string x6) (.slice a5 r5.length c5) (.int .u64 N) (.int .u64 D) (.int .u64 T) ⟨g, 0, none⟩ hgE).trans s0, (St6.far w1 E (.int .i64 0) (.string x6) (.slice a5 r5.length c5) (.int .u64 N) (.int .u64 D) (.int .u64 T) ⟨g, 2, none⟩ hgE).trans s2, (St6.far w1 E (.int .i64 0) (.string x6) (.slice a5 r5.length c5) (.int .u64 N) (.int .u64 D) (.int .u64 T) ⟨g, 3, none⟩ hgE).trans s3, (St6.far w1 E (.int .i64 0) (.string x6) (.slice a5 r5.length c5) (.int .u64 N) (.int .u64 D) (.int .u64 T) ⟨g, 4, none⟩ hgE).trans s4, (St6.far w1 E (.int .i64 0) (.string x6) (.slice a5 r5.length c5) (.int .u64 N) (.int .u64 D) (.int .u64 T) ⟨g, 5, none⟩ hgE).trans s5⟩, By.st6 hv4 hE zc_no (.int .i64 0) (.string x6) (.slice a5 r5.length c5) (.int .u64 N) (.int .u64 D) (.int .u64 T)⟩)
                                          clear hK K
                                          (try simp only [Act.put, List.setIfInBounds_toArray, List.set_cons_zero, List.set_cons_succ])
                                          refine wpAnyH_done (by kernel_rfl) ?_ _
                                          go_wp2_with fail
                                          go_meet
                                          case rel =>
                                            exact ⟨E, a5, c5, rfl, St6.heap hE (.int .i64 0) (.string x6) (.slice a5 r5.length c5) (.int .u64 N) (.int .u64 D) (.int .u64 T), (St6.other w1 E (.int .i64 0) (.string x6) (.slice a5 r5.length c5) (.int .u64 N) (.int .u64 D) (.int .u64 T) _ (by omega)).trans hR, (St6.far w1 E (.int .i64 0) (.string x6) (.slice a5 r5.length c5) (.int .u64 N) (.int .u64 D) (.int .u64 T) ⟨g, 1, none⟩ hgE).trans s1, By.st6 hv5 hE zc_no (.int .i64 0) (.string x6) (.slice a5 r5.length c5) (.int .u64 N) (.int .u64 D) (.int .u64 T), St6.ext hx hwE (.int .i64 0) (.string x6) (.slice a5 r5.length c5) (.int .u64 N) (.int .u64 D) (.int .u64 T), hwE2⟩
                                  · skip
                                    have hb : Ext w1.drew (w1.drew.alloc (.cells #[.int .i64 0, .string ⟨#[]⟩, .slice none 0 0, .int .u64 0, .int .u64 0, .int .u64 0] 28)) := Ext.alloc (Below.refl _ _) _
                                    have hE : (w1.drew.alloc (.cells #[.int .i64 0, .string ⟨#[]⟩, .slice none 0 0, .int .u64 0, .int .u64 0, .int .u64 0] 28)).heap[w1.heap.size]? = _ := newblk w1.drew (.cells #[.int .i64 0, .string ⟨#[]⟩, .slice none 0 0, .int .u64 0, .int .u64 0, .int .u64 0] 28)
                                    have hwE : w.heap.size ≤ w1.heap.size := hx.size
                                    have hwE2 : w.heap.size < w1.heap.size := blk_lt hR
                                    go_simp
                                    refine hK.out _ _ ?_ (fun hHeld => ?_)
                                    · (try dsimp only); (exact ⟨Ext.cell hb s0, Ext.cell hb s2, Ext.cell hb s3, Ext.cell hb s4, Ext.cell hb s5⟩)
                                    clear hK K
                                    (try simp only [Act.put, List.setIfInBounds_toArray, List.set_cons_zero, List.set_cons_succ])
                                    have hx := Ext.trans' hx hb
                                    have hR := Ext.blk hb hR
                                    have s0 := Ext.cell hb s0
                                    have s1 := Ext.cell hb s1
                                    have s2 := Ext.cell hb s2
                                    have s3 := Ext.cell hb s3
                                    have s4 := Ext.cell hb s4
                                    have s5 := Ext.cell hb s5
                                    generalize w1.heap.size = E at *
                                    refine wpAnyH_ready (rs := [3]) (by kernel_rfl) (by simp) ?_
                                    refine AllReadyH.cons rfl (fun K hK => ?_) AllReadyH.nil
                                    go_simp
                                    (go_at_call 37; (with_reducible refine (cT.out _).mono ?_); rintro e w1 ⟨rfl, hb⟩; have hx := Ext.trans' hx hb; have hR := Ext.blk hb hR; have s0 := Ext.cell hb s0; have s1 := Ext.cell hb s1; have s2 := Ext.cell hb s2; have s3 := Ext.cell hb s3; have s4 := Ext.cell hb s4; have s5 := Ext.cell hb s5; have hE := Ext.blk hb hE)
                                    (try go_wp2_with fail)
                                    refine hK.out _ _ ?_ (fun hHeld => ?_)
                                    · (try dsimp only); (exact ⟨s0, s2, s3, s4, s5⟩)
                                    clear hK K
                                    (try simp only [Act.put, List.setIfInBounds_toArray, List.set_cons_zero, List.set_cons_succ])
                                    refine wpAnyH_ready (rs := [7]) (by kernel_rfl) (by simp) ?_
                                    refine AllReadyH.cons rfl (fun K hK => ?_) AllReadyH.nil
                                    go_simp
                                    (go_at_call 38; (with_reducible refine (cN.out _).mono ?_); rintro e w1 ⟨rfl, hb⟩; have hx := Ext.trans' hx hb; have hR := Ext.blk hb hR; have s0 := Ext.cell hb s0; have s1 := Ext.cell hb s1; have s2 := Ext.cell hb s2; have s3 := Ext.cell hb s3; have s4 := Ext.cell hb s4; have s5 := Ext.cell hb s5; have hE := Ext.blk hb hE)
                                    (try go_wp2_with fail)
                                    refine hK.out _ _ ?_ (fun hHeld => ?_)
                                    · (try dsimp only); (exact ⟨s0, s2, s3, s4, s5⟩)
                                    clear hK K
                                    (try simp only [Act.put, List.setIfInBounds_toArray, List.set_cons_zero, List.set_cons_succ])
                                    refine wpAnyH_ready (rs := [11]) (by kernel_rfl) (by simp) ?_
                                    refine AllReadyH.cons rfl (fun K hK => ?_) AllReadyH.nil
                                    go_simp
                                    (go_at_call 37; (with_reducible refine (cD.out _).mono ?_); rintro e w1 ⟨rfl, hb⟩; have hx := Ext.trans' hx hb; have hR := Ext.blk hb hR; have s0 := Ext.cell hb s0; have s1 := Ext.cell hb s1; have s2 := Ext.cell hb s2; have s3 := Ext.cell hb s3; have s4 := Ext.cell hb s4; have s5 := Ext.cell hb s5; have hE := Ext.blk hb hE)
                                    (try go_wp2_with fail)
                                    refine hK.out _ _ ?_ (fun hHeld => ?_)
                                    · (try dsimp only); (exact ⟨s0, s2, s3, s4, s5⟩)
                                    clear hK K
                                    (try simp only [Act.put, List.setIfInBounds_toArray, List.set_cons_zero, List.set_cons_succ])
                                    refine wpAnyH_ready (rs := [15]) (by kernel_rfl) (by simp) ?_
                                    refine AllReadyH.cons rfl (fun K hK => ?_) AllReadyH.nil
                                    go_simp
                                    (go_at_call 39; (with_reducible refine (cB4.out _).mono ?_); intro e w1 hpost; obtain ⟨a4, c4, rfl, hv4, hb⟩ := hpost; have hx := Ext.trans' hx hb; have hR := Ext.blk hb hR; have s0 := Ext.cell hb s0; have s1 := Ext.cell hb s1; have s2 := Ext.cell hb s2; have s3 := Ext.cell hb s3; have s4 := Ext.cell hb s4; have s5 := Ext.cell hb s5; have hE := Ext.blk hb hE)
                                    (try go_wp2_with fail)
                                    refine hK.out _ _ ?_ (fun hHeld => ?_)
                                    · (try dsimp only); (exact ⟨s0, s2, s3, s4, s5⟩)
                                    clear hK K
                                    (try simp only [Act.put, List.setIfInBounds_toArray, List.set_cons_zero, List.set_cons_succ])
                                    refine wpAnyH_S (S' := fun w' => (w'.cell? ⟨g, 0, none⟩ = some (.string x0) ∧ w'.cell? ⟨g, 2, none⟩ = some (.string x2) ∧ w'.cell? ⟨g, 3, none⟩ = some (.string x3) ∧ w'.cell? ⟨g, 4, none⟩ = some (.string x4) ∧ w'.cell? ⟨g, 5, none⟩ = some (.string x5)) ∧ By w' (.slice a4 r4.length c4) r4) (fun _ h => h.1) _ _ _ _ ?_
                                    replace hHeld := And.intro hHeld hv4
                                    refine takeD (i := 16) (d := (some 29)) (v := ?_) rfl (by kernel_rfl) (by kernel_rfl) (by kernel_rfl) (by kernel_rfl) (fun _ _ _ h => h) (Or.inl ⟨by kernel_rfl, ?rgy⟩) (by assumption) ?rgn
                                    case rgy => (intro w hSw; (try dsimp only at hSw); have hcw := hcvt.out w _ _ hSw.2; go_simp; (try with_reducible rfl))
                                    case rgn =>
                                      (try simp only [Act.put, List.setIfInBounds_toArray, List.set_cons_zero, List.set_cons_succ])
                                      refine wpAnyH_ready (rs := [20]) (by kernel_rfl) (by simp) ?_
                                      refine AllReadyH.cons rfl (fun K hK => ?_) AllReadyH.nil
                                      go_simp
                                      (go_at_call 39; (with_reducible refine (cB5.out _).mono ?_); intro e w1 hpost; obtain ⟨a5, c5, rfl, hv5, hb⟩ := hpost; have hx := Ext.trans' hx hb; have hR := Ext.blk hb hR; have s0 := Ext.cell hb s0; have s1 := Ext.cell hb s1; have s2 := Ext.cell hb s2; have s3 := Ext.cell hb s3; have s4 := Ext.cell hb s4; have s5 := Ext.cell hb s5; have hE := Ext.blk hb hE; have hv4 := By.ext hb hv4)
                                      (try go_wp2_with fail)
                                      refine hK.out _ _ ?_ (fun hHeld => ?_)
                                      · (try dsimp only); (exact ⟨⟨s0, s2, s3, s4, s5⟩, hv4⟩)
                                      clear hK K
                                      (try simp only [Act.put, List.setIfInBounds_toArray, List.set_cons_zero, List.set_cons_succ])
                                      refine takeD (i := 21) (d := (some 34)) (v := ?_) rfl (by kernel_rfl) (by kernel_rfl) (by kernel_rfl) (by kernel_rfl) (fun _ _ _ h => h) (Or.inl ⟨by kernel_rfl, ?rgy⟩) (by assumption) ?rgn
                                      case rgy => (intro w hSw; (try dsimp only at hSw); go_simp; (try with_reducible rfl))
                                      case rgn =>
                                        (try simp only [Act.put, List.setIfInBounds_toArray, List.set_cons_zero, List.set_cons_succ])
                                        have hgE := ne_of_vals s0 hE
                                        refine wpAnyH_ready (rs := [23]) (by kernel_rfl) (by simp) ?_
                                        refine AllReadyH.cons rfl (fun K hK => ?_) AllReadyH.nil
                                        obtain ⟨e0, e1, e2, e3, e4, e5⟩ := blk6 hE
                                        obtain ⟨f0, f1, f2, f3, f4, f5⟩ := blk6f hE
                                        go_simp
                                        clear e0 e1 e2 e3 e4 e5 f0 f1 f2 f3 f4 f5
                                        refine hK.out _ _ ?_ (fun hHeld => ?_)
                                        · (try dsimp only); (exact ⟨⟨(St6.far w1 E (.int .i64 0) (.string x6) (.slice a5 r5.length c5) (.int .u64 N) (.int .u64 D) (.int .u64 T) ⟨g, 0, none⟩ hgE).trans s0, (St6.far w1 E (.int .i64 0) (.string x6) (.slice a5 r5.length c5) (.int .u64 N) (.int .u64 D) (.int .u64 T) ⟨g, 2, none⟩ hgE).trans s2, (St6.far w1 E (.int .i64 0) (.string x6) (.slice a5 r5.length c5) (.int .u64 N) (.int .u64 D) (.int .u64 T) ⟨g, 3, none⟩ hgE).trans s3, (St6.far w1 E (.int .i64 0) (.string x6) (.slice a5 r5.length c5) (.int .u64 N) (.int .u64 D) (.int .u64 T) ⟨g, 4, none⟩ hgE).trans s4, (St6.far w1 E (.int .i64 0) (.string x6) (.slice a5 r5.length c5) (.int .u64 N) (.int .u64 D) (.int .u64 T) ⟨g, 5, none⟩ hgE).trans s5⟩, By.st6 hv4 hE zc_no (.int .i64 0) (.string x6) (.slice a5 r5.length c5) (.int .u64 N) (.int .u64 D) (.int .u64 T)⟩)
                                        clear hK K
                                        (try simp only [Act.put, List.setIfInBounds_toArray, List.set_cons_zero, List.set_cons_succ])
                                        refine wpAnyH_done (by kernel_rfl) ?_ _
                                        go_wp2_with fail
                                        go_meet
                                        case rel =>
                                          exact ⟨E, a5, c5, rfl, St6.heap hE (.int .i64 0) (.string x6) (.slice a5 r5.length c5) (.int .u64 N) (.int .u64 D) (.int .u64 T), (St6.other w1 E (.int .i64 0) (.string x6) (.slice a5 r5.length c5) (.int .u64 N) (.int .u64 D) (.int .u64 T) _ (by omega)).trans hR, (St6.far w1 E (.int .i64 0) (.string x6) (.slice a5 r5.length c5) (.int .u64 N) (.int .u64 D) (.int .u64 T) ⟨g, 1, none⟩ hgE).trans s1, By.st6 hv5 hE zc_no (.int .i64 0) (.string x6) (.slice a5 r5.length c5) (.int .u64 N) (.int .u64 D) (.int .u64 T), St6.ext hx hwE (.int .i64 0) (.string x6) (.slice a5 r5.length c5) (.int .u64 N) (.int .u64 D) (.int .u64 T), hwE2⟩
  case rest =>
    obtain ⟨E, a5, c5, rfl, hE, hR, s1, hv5, hx, hwE⟩ := hcut
    have hz2 : (z.toList != s.toList) = !t := by rw [bne, hT.out]
    have hz1 := hT.out
    have hgq : g ≠ E ∨ g = E := by omega
    go_wp2
    go_loopw [6] (fun i wr => ∃ j : Nat, 1 ≤ j ∧ j ≤ 6 ∧ i = .int .i64 j ∧ Box (wr.heap[E]? = some (.cells #[.int .i64 (kk q j), .string x6, .slice a5 r5.length c5, .int .u64 N, .int .u64 D, .int .u64 T] 28 (0, 0))) ∧ Box (wr.heap[w.heap.size]? = some (.cells #[.int .i64 0, .string ⟨#[]⟩, .slice none 0 0, .int .u64 0, .int .u64 0, .int .u64 0] 28 (0, 0))) ∧ Box (wr.cell? ⟨g, 1, none⟩ = some (.string x1)) ∧ Box (By wr (.slice a5 r5.length c5) r5) ∧ Box (Ext w wr)) (fun i _ => 6 - (intOf i).toNat)
    case atStart => exact ⟨1, by omega, by omega, rfl, ⟨by rw [kk_one]; exact hE⟩, ⟨hR⟩, ⟨s1⟩, ⟨hv5⟩, ⟨hx⟩⟩
    case round =>
      obtain ⟨j, h1, h6, rfl, hE', hR', s1', hv5', hx'⟩ := hrel
      clear hE hR s1 hv5 hx
      rcases Nat.lt_or_ge j 6 with hlt | hge
      · have cW : Box _ := ⟨fun w => rword_any (j : Int) w⟩
        rw [wordI_of j h1 (by omega)] at cW
        have hkj := hk.out j h1 (by omega)
        have hb0 : Ext wr wr.drew := Ext.drew1 (Below.refl _ _)
        have s1 := Ext.cell hb0 s1'.out
        have hB := Box.mk hb0
        clear hb0
        generalize wordS j = yw at *
        by_cases hjq : j = q
        · rw [decide_eq_true hjq] at hkj
          have hky : Box (kk q (j + 1) = j) := ⟨by rw [← hjq, kk_yes]⟩
          clear hjq
          go_wp2
          go_region_held3 (fun w' => w'.cell? ⟨g, 1, none⟩ = some (.string x1))
            (first | (exact s1) | go_keep)
            (first | (go_at_call 26; (with_reducible refine (cW.out _).mono ?_); rintro e w1 ⟨rfl, hb⟩; have s1 := Ext.cell hb s1; have hB := Box.mk (Ext.trans' hB.out hb)))
          have hE := Ext.blk hB.out hE'.out
          obtain ⟨e0, _⟩ := blk6 hE
          obtain ⟨f0, _⟩ := blk6f hE
          have hR := Ext.blk hB.out hR'.out
          have hv5 := By.ext hB.out hv5'.out
          have hx := Ext.trans' hx'.out hB.out
          have HE := Box.mk hE
          have HR := Box.mk hR
          have HV := Box.mk hv5
          have HX := Box.mk hx
          have hE0 := Box.mk e0
          have S1 := Box.mk s1
          clear hE hR hv5 hx s1
          go_wp2
          go_roundw
          case rel => exact ⟨j + 1, by omega, by omega, by go_num, ⟨by rw [hky.out]; exact heap_setCell_same _ E 0 _ _ _ HE.out⟩, ⟨(heap_setCell_other _ _ _ _ (by show w.heap.size ≠ E; omega)).trans HR.out⟩, ⟨(World.cell?_setCell_other _ _ _ _ (by intro h; cases h)).trans S1.out⟩, ⟨By.keepSet HV.out hE0.out (fun z h => by cases h) _⟩, ⟨Below.setCell HX.out (p := ⟨E, 0, none⟩) (by show w.heap.size ≤ E; omega) _⟩⟩
          case measure => simp [intOf]; omega
        · rw [decide_eq_false hjq] at hkj
          have hky : Box (kk q (j + 1) = kk q j) := ⟨kk_no q j hjq⟩
          clear hjq
          go_wp2
          go_region_held3 (fun w' => w'.cell? ⟨g, 1, none⟩ = some (.string x1))
            (first | (exact s1) | go_keep)
            (first | (go_at_call 26; (with_reducible refine (cW.out _).mono ?_); rintro e w1 ⟨rfl, hb⟩; have s1 := Ext.cell hb s1; have hB := Box.mk (Ext.trans' hB.out hb)))
          have HE := Box.mk (Ext.blk hB.out hE'.out)
          have HR := Box.mk (Ext.blk hB.out hR'.out)
          have HV := Box.mk (By.ext hB.out hv5'.out)
          have HX := Box.mk (Ext.trans' hx'.out hB.out)
          have S1 := Box.mk s1
          clear s1
          go_wp2
          go_roundw
          case rel => exact ⟨j + 1, by omega, by omega, by go_num, ⟨by rw [hky.out]; exact HE.out⟩, HR, S1, HV, HX⟩
          case measure => simp [intOf]; omega
      · obtain rfl : j = 6 := by omega
        have hE := hE'.out
        rw [kk_six q hq5] at hE
        have hR := hR'.out
        have hv5 := hv5'.out
        have hx := hx'.out
        obtain ⟨e0, e1, e2, e3, e4, e5⟩ := blk6 hE
        cases y with
        | false =>
          go_wp2_with (first
            | (go_at_call 24; (with_reducible refine (cV.out _ _ _).mono ?_); rintro e w1 ⟨rfl, hb⟩; have hR := Ext.blk hb hR; have hx := Ext.trans' hx hb; obtain ⟨m0, m1, m2, m3, m4, m5⟩ := blk6 hR; obtain ⟨f0, f1, f2, f3, f4, f5⟩ := blk6f hR))
          refine bodyPost_ret (v := .tuple #[(.agg #[.int .i64 0, .string ⟨#[]⟩, .slice none 0 0, .int .u64 0, .int .u64 0, .int .u64 0]), .bool false]) ?_ rfl ⟨rfl, Ext.st6 hx (Nat.le_refl _) _ _ _ _ _ _⟩
          simp [results, Tryd.results12, go_sem, m0, m1, m2, m3, m4, m5]
        | true =>
          have cX' : Box _ := ⟨cX.out rfl⟩
          cases t with
          | false =>
            go_wp2_with (first
              | (go_at_call 24; (with_reducible refine (cV.out _ _ _).mono ?_); rintro e w1 ⟨rfl, hb⟩; have hE := Ext.blk hb hE; have hR := Ext.blk hb hR; have hx := Ext.trans' hx hb; have hv5 := By.ext hb hv5; (try clear e0 e1 e2 e3 e4 e5); obtain ⟨e0, e1, e2, e3, e4, e5⟩ := blk6 hE)
              | (go_at_call 18; (with_reducible refine (cX'.out _ _ _ hv5).mono ?_); rintro e w1 ⟨rfl, hb⟩; have hR := Ext.blk hb hR; have hx := Ext.trans' hx hb; obtain ⟨m0, m1, m2, m3, m4, m5⟩ := blk6 hR; obtain ⟨f0, f1, f2, f3, f4, f5⟩ := blk6f hR))
            refine bodyPost_ret (v := .tuple #[(.agg #[.int .i64 0, .string ⟨#[]⟩, .slice none 0 0, .int .u64 0, .int .u64 0, .int .u64 0]), .bool false]) ?_ rfl ⟨rfl, Ext.st6 hx (Nat.le_refl _) _ _ _ _ _ _⟩
            simp [results, Tryd.results12, go_sem, m0, m1, m2, m3, m4, m5]
          | true =>
            go_wp2_with (first
              | (go_at_call 24; (with_reducible refine (cV.out _ _ _).mono ?_); rintro e w1 ⟨rfl, hb⟩; have hE := Ext.blk hb hE; have hR := Ext.blk hb hR; have hx := Ext.trans' hx hb; have hv5 := By.ext hb hv5; (try clear e0 e1 e2 e3 e4 e5); obtain ⟨e0, e1, e2, e3, e4, e5⟩ := blk6 hE)
              | (go_at_call 18; (with_reducible refine (cX'.out _ _ _ hv5).mono ?_); rintro e w1 ⟨rfl, hb⟩; have hE := Ext.blk hb hE; have hR := Ext.blk hb hR; have hx := Ext.trans' hx hb; have hv5 := By.ext hb hv5; (try clear e0 e1 e2 e3 e4 e5); obtain ⟨e0, e1, e2, e3, e4, e5⟩ := blk6 hE; obtain ⟨m0, m1, m2, m3, m4, m5⟩ := blk6 hR; obtain ⟨f0, f1, f2, f3, f4, f5⟩ := blk6f hR))
            refine bodyPost_ret (v := .tuple #[.agg #[.int .i64 q, .string x6, .slice a5 r5.length c5, .int .u64 N, .int .u64 D, .int .u64 T], .bool true]) ?_ rfl ⟨_, rfl, By.st6 hv5 hR zc_no _ _ _ _ _ _, Ext.st6 hx (Nat.le_refl _) _ _ _ _ _ _⟩
            simp [results, Tryd.results12, go_sem, m0, m1, m2, m3, m4, m5]
end Go.Proofs.YtapngkjgagapeaaDoor
