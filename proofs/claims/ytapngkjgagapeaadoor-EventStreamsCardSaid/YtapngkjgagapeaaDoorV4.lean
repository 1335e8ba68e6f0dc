import Derived.Test.YtapngkjgagapeaaDoorV1R
import Derived.Test.YtapngkjgagapeaaDoorV3
import Derived.Test.YtapngkjgagapeaaDoorE8
/- Contracts of the texts of events. -/
namespace Go.Proofs.YtapngkjgagapeaaDoor
open Go.RowKit

theorem kB_of (k : Nat) (h1 : 1 ≤ k) (h5 : k ≤ 5) : kB (k : Int) = true := by
  unfold kB
  rw [decide_eq_true (by omega), decide_eq_true (by omega)]
  rfl
theorem wordI_of (k : Nat) (h1 : 1 ≤ k) (h5 : k ≤ 5) : wordI (k : Int) = wordS k := by
  unfold wordI
  rw [if_pos (kB_of k h1 h5), Int.toNat_natCast]
theorem wordS_size (k : Nat) : (wordS k).size ≤ 8 := by
  show (wordV k).toArray.size ≤ 8
  have := wordV_len k
  simpa using this
theorem vtext_cat (k : Nat) (s l : List UInt8) (b d t : Nat) : txt t ++ ⟨#[32]⟩ ++ wordS k ++ ⟨#[32]⟩ ++ digs b ++ ⟨#[32]⟩ ++ txt d ++ ⟨#[32]⟩ ++ ⟨(hexL s).toArray⟩ ++ ⟨#[32]⟩ ++ ⟨(hexL l).toArray⟩ = (⟨(Evt.text ⟨k, ⟨s, l, d, b⟩, t⟩).toArray⟩ : ByteArray) := by
  apply ByteArray.ext
  apply Array.ext'
  simp [Evt.text, Ent.text, digs, txt, wordS, ByteArray.data_append, List.append_assoc]
theorem vtext_cat2 (k : Nat) (e : Ent) (t : Nat) : txt t ++ ⟨#[32]⟩ ++ wordS k ++ ⟨#[32]⟩ ++ ⟨e.text.toArray⟩ = (⟨(Evt.text ⟨k, e, t⟩).toArray⟩ : ByteArray) := by
  apply ByteArray.ext
  apply Array.ext'
  simp [Evt.text, txt, wordS, ByteArray.data_append, List.append_assoc]
set_option maxRecDepth 100000 in
set_option maxHeartbeats 8000000 in
theorem rvtext_any (k : Nat) (s : ByteArray) (a : Option Addr) (l : List UInt8) (c b d t : Nat) (w : World) (h1 : 1 ≤ k) (h5 : k ≤ 5) (hs : s.size ≤ 100000) (hl : l.length ≤ 100000) (hb : b < 18446744073709551616) (hd : d < 18446744073709551616) (ht : t < 18446744073709551616) (hv : By w (.slice a l.length c) l) :
    Calls Tryd.prog 18 #[(.agg #[.int .i64 (k), .string s, .slice a (l.length) c, .int .u64 (b), .int .u64 (d), .int .u64 (t)])] w fun e w' => e = .returned (.string ⟨(Evt.text ⟨k, ⟨s.data.toList, l, d, b⟩, t⟩).toArray⟩) ∧ Ext w w' := by
  have c1 : Box _ := ⟨fun w => rtime_any t w ht⟩
  have c2 : Box _ := ⟨fun w => rword_any (k : Int) w⟩
  rw [wordI_of k h1 h5] at c2
  have c3 : Box _ := ⟨fun w => decimal_any b w hb⟩
  have c4 : Box _ := ⟨fun w => rtime_any d w hd⟩
  have c5 : Box _ := ⟨fun w => rhex_any s w hs⟩
  have c6 : Box (∀ w, Calls Tryd.prog 51 #[.string ⟨l.toArray⟩] w fun e w' => e = .returned (.string ⟨(hexL l).toArray⟩) ∧ Ext w w') := ⟨fun w => by
    have h := rhex_any ⟨l.toArray⟩ w (by show l.toArray.size ≤ _; simpa using hl)
    simpa using h⟩
  rw [← vtext_cat]
  have s1 := txt_size t ht
  have s2 := wordS_size k
  have s3 := digs_size b hb
  have s4 := txt_size d hd
  have s5 := hexB_size s.data.toList 100000 hs
  have s6 := hexB_size l 100000 hl
  have hx : Ext w (w.alloc (.cells #[.int .i64 (k), .string s, .slice a (l.length) c, .int .u64 (b), .int .u64 (d), .int .u64 (t)] 28)) := Ext.alloc (Below.refl _ _) _
  have hB := newblk w (.cells #[.int .i64 (k), .string s, .slice a (l.length) c, .int .u64 (b), .int .u64 (d), .int .u64 (t)] 28)
  obtain ⟨m0, m1, m2, m3, m4, m5⟩ := blk6 hB
  have hcv : Box (∀ w', By w' (.slice a l.length c) l → (convert 24 9 (.slice a l.length c)).run Tryd.prog w' = .ok (.string ⟨l.toArray⟩) w') := ⟨fun w' h => h.conv⟩
  have HV := Box.mk hv
  generalize txt t = x1 at *
  generalize wordS k = x2 at *
  generalize digs b = x3 at *
  generalize txt d = x4 at *
  generalize (⟨(hexL s.data.toList).toArray⟩ : ByteArray) = x5 at *
  generalize (⟨(hexL l).toArray⟩ : ByteArray) = x6 at *
  generalize (⟨l.toArray⟩ : ByteArray) = z6 at *
  have g1 : ¬ 9223372036854775807 < x1.size + 1 := by omega
  have g2 : ¬ 9223372036854775807 < x1.size + 1 + x2.size := by omega
  have g3 : ¬ 9223372036854775807 < x1.size + 1 + x2.size + 1 := by omega
  have g4 : ¬ 9223372036854775807 < x1.size + 1 + x2.size + 1 + x3.size := by omega
  have g5 : ¬ 9223372036854775807 < x1.size + 1 + x2.size + 1 + x3.size + 1 := by omega
  have g6 : ¬ 9223372036854775807 < x1.size + 1 + x2.size + 1 + x3.size + 1 + x4.size := by omega
  have g7 : ¬ 9223372036854775807 < x1.size + 1 + x2.size + 1 + x3.size + 1 + x4.size + 1 := by omega
  have g8 : ¬ 9223372036854775807 < x1.size + 1 + x2.size + 1 + x3.size + 1 + x4.size + 1 + x5.size := by omega
  have g9 : ¬ 9223372036854775807 < x1.size + 1 + x2.size + 1 + x3.size + 1 + x4.size + 1 + x5.size + 1 := by omega
  have g10 : ¬ 9223372036854775807 < x1.size + 1 + x2.size + 1 + x3.size + 1 + x4.size + 1 + x5.size + 1 + x6.size := by omega
  have hx := Ext.drewN hx 1
  clear hv hl hd hb hs ht h1 h5
  go_enter Tryd.func18, Tryd.ntmps18
  go_wp2
  refine wp_region_held_drew (S := (fun w' => w'.cell? ⟨w.heap.size, 0, none⟩ = some (.int .i64 (k)) ∧ w'.cell? ⟨w.heap.size, 1, none⟩ = some (.string s) ∧ w'.cell? ⟨w.heap.size, 2, none⟩ = some (.slice a (l.length) c) ∧ w'.cell? ⟨w.heap.size, 3, none⟩ = some (.int .u64 (b)) ∧ w'.cell? ⟨w.heap.size, 4, none⟩ = some (.int .u64 (d)) ∧ w'.cell? ⟨w.heap.size, 5, none⟩ = some (.int .u64 (t)) ∧ By w' (.slice a l.length c) l)) (by kernel_rfl) ?_ (fun hHeld => ?_)
  · (try dsimp only); (refine ⟨?_, ?_, ?_, ?_, ?_, ?_, HV.out.ext hx⟩ <;> go_keep)
  refine takeD (i := 0) (d := (some 3)) (v := ?_) rfl (by kernel_rfl) (by kernel_rfl) (by kernel_rfl) (by kernel_rfl) (fun _ _ _ h => h) (Or.inl ⟨by kernel_rfl, ?hy⟩) (by assumption) ?rest
  case hy => (intro w hSw; (try dsimp only at hSw); go_simp; (try with_reducible rfl))
  case rest =>
    (try simp only [Act.put, List.setIfInBounds_toArray, List.set_cons_zero, List.set_cons_succ])
    refine takeD (i := 1) (d := (some 4)) (v := ?_) rfl (by kernel_rfl) (by kernel_rfl) (by kernel_rfl) (by kernel_rfl) (fun _ _ _ h => h) (Or.inl ⟨by kernel_rfl, ?hy⟩) (by assumption) ?rest
    case hy => (intro w hSw; (try dsimp only at hSw); go_simp; (try with_reducible rfl))
    case rest =>
      (try simp only [Act.put, List.setIfInBounds_toArray, List.set_cons_zero, List.set_cons_succ])
      refine takeD (i := 4) (d := (some 7)) (v := ?_) rfl (by kernel_rfl) (by kernel_rfl) (by kernel_rfl) (by kernel_rfl) (fun _ _ _ h => h) (Or.inl ⟨by kernel_rfl, ?hy⟩) (by assumption) ?rest
      case hy => (intro w hSw; (try dsimp only at hSw); go_simp; (try with_reducible rfl))
      case rest =>
        (try simp only [Act.put, List.setIfInBounds_toArray, List.set_cons_zero, List.set_cons_succ])
        refine takeD (i := 5) (d := (some 8)) (v := ?_) rfl (by kernel_rfl) (by kernel_rfl) (by kernel_rfl) (by kernel_rfl) (fun _ _ _ h => h) (Or.inl ⟨by kernel_rfl, ?hy⟩) (by assumption) ?rest
        case hy => (intro w hSw; (try dsimp only at hSw); go_simp; (try with_reducible rfl))
        case rest =>
          (try simp only [Act.put, List.setIfInBounds_toArray, List.set_cons_zero, List.set_cons_succ])
          refine takeD (i := 9) (d := (some 12)) (v := ?_) rfl (by kernel_rfl) (by kernel_rfl) (by kernel_rfl) (by kernel_rfl) (fun _ _ _ h => h) (Or.inl ⟨by kernel_rfl, ?hy⟩) (by assumption) ?rest
          case hy => (intro w hSw; (try dsimp only at hSw); go_simp; (try with_reducible rfl))
          case rest =>
            (try simp only [Act.put, List.setIfInBounds_toArray, List.set_cons_zero, List.set_cons_succ])
            refine takeD (i := 10) (d := (some 13)) (v := ?_) rfl (by kernel_rfl) (by kernel_rfl) (by kernel_rfl) (by kernel_rfl) (fun _ _ _ h => h) (Or.inl ⟨by kernel_rfl, ?hy⟩) (by assumption) ?rest
            case hy => (intro w hSw; (try dsimp only at hSw); go_simp; (try with_reducible rfl))
            case rest =>
              (try simp only [Act.put, List.setIfInBounds_toArray, List.set_cons_zero, List.set_cons_succ])
              refine takeD (i := 14) (d := (some 17)) (v := ?_) rfl (by kernel_rfl) (by kernel_rfl) (by kernel_rfl) (by kernel_rfl) (fun _ _ _ h => h) (Or.inl ⟨by kernel_rfl, ?hy⟩) (by assumption) ?rest
              case hy => (intro w hSw; (try dsimp only at hSw); go_simp; (try with_reducible rfl))
              case rest =>
                (try simp only [Act.put, List.setIfInBounds_toArray, List.set_cons_zero, List.set_cons_succ])
                refine takeD (i := 15) (d := (some 18)) (v := ?_) rfl (by kernel_rfl) (by kernel_rfl) (by kernel_rfl) (by kernel_rfl) (fun _ _ _ h => h) (Or.inl ⟨by kernel_rfl, ?hy⟩) (by assumption) ?rest
                case hy => (intro w hSw; (try dsimp only at hSw); go_simp; (try with_reducible rfl))
                case rest =>
                  (try simp only [Act.put, List.setIfInBounds_toArray, List.set_cons_zero, List.set_cons_succ])
                  refine takeD (i := 19) (d := (some 22)) (v := ?_) rfl (by kernel_rfl) (by kernel_rfl) (by kernel_rfl) (by kernel_rfl) (fun _ _ _ h => h) (Or.inl ⟨by kernel_rfl, ?hy⟩) (by assumption) ?rest
                  case hy => (intro w hSw; (try dsimp only at hSw); go_simp; (try with_reducible rfl))
                  case rest =>
                    (try simp only [Act.put, List.setIfInBounds_toArray, List.set_cons_zero, List.set_cons_succ])
                    refine takeD (i := 20) (d := (some 23)) (v := ?_) rfl (by kernel_rfl) (by kernel_rfl) (by kernel_rfl) (by kernel_rfl) (fun _ _ _ h => h) (Or.inl ⟨by kernel_rfl, ?hy⟩) (by assumption) ?rest
                    case hy => (intro w hSw; (try dsimp only at hSw); go_simp; (try with_reducible rfl))
                    case rest =>
                      (try simp only [Act.put, List.setIfInBounds_toArray, List.set_cons_zero, List.set_cons_succ])
                      refine takeD (i := 24) (d := (some 27)) (v := ?_) rfl (by kernel_rfl) (by kernel_rfl) (by kernel_rfl) (by kernel_rfl) (fun _ _ _ h => h) (Or.inl ⟨by kernel_rfl, ?hy⟩) (by assumption) ?rest
                      case hy => (intro w hSw; (try dsimp only at hSw); go_simp; (try with_reducible rfl))
                      case rest =>
                        (try simp only [Act.put, List.setIfInBounds_toArray, List.set_cons_zero, List.set_cons_succ])
                        refine takeD (i := 25) (d := (some 28)) (v := ?_) rfl (by kernel_rfl) (by kernel_rfl) (by kernel_rfl) (by kernel_rfl) (fun _ _ _ h => h) (Or.inl ⟨by kernel_rfl, ?hy⟩) (by assumption) ?rest
                        case hy => (intro w hSw; (try dsimp only at hSw); go_simp; (try with_reducible rfl))
                        case rest =>
                          (try simp only [Act.put, List.setIfInBounds_toArray, List.set_cons_zero, List.set_cons_succ])
                          refine takeD (i := 26) (d := (some 29)) (v := ?_) rfl (by kernel_rfl) (by kernel_rfl) (by kernel_rfl) (by kernel_rfl) (fun _ _ _ h => h) (Or.inl ⟨by kernel_rfl, ?hy⟩) (by assumption) ?rest
                          case hy => (intro w hSw; (try dsimp only at hSw); have hcw := hcv.out w hSw.2.2.2.2.2.2; go_simp; (try with_reducible rfl))
                          case rest =>
                            (try simp only [Act.put, List.setIfInBounds_toArray, List.set_cons_zero, List.set_cons_succ])
                            refine wpAnyH_ready (rs := [2]) (by kernel_rfl) (by simp) ?_
                            refine AllReadyH.cons rfl (fun K hK => ?_) AllReadyH.nil
                            go_simp
                            (go_at_call 49; (with_reducible refine (c1.out _).mono ?_); rintro e w1 ⟨rfl, hb⟩; (try clear m0 m1 m2 m3 m4 m5); have hx := Ext.trans' hx hb; have hB := Ext.blk (Ext.trans' (Ext.drewN (Below.refl _ _) 1) hb) hB; obtain ⟨m0, m1, m2, m3, m4, m5⟩ := blk6 hB)
                            (try go_wp2_with fail)
                            refine hK.out _ _ ?_ (fun hHeld => ?_)
                            · (try dsimp only); (exact ⟨m0, m1, m2, m3, m4, m5, HV.out.ext hx⟩)
                            clear hK K
                            (try simp only [Act.put, List.setIfInBounds_toArray, List.set_cons_zero, List.set_cons_succ])
                            refine takeD (i := 3) (d := (some 6)) (v := ?_) rfl (by kernel_rfl) (by kernel_rfl) (by kernel_rfl) (by kernel_rfl) (fun _ _ _ h => h) (Or.inl ⟨by kernel_rfl, ?hy⟩) (by assumption) ?rest
                            case hy => (intro w hSw; (try dsimp only at hSw); go_simp; (try with_reducible rfl))
                            case rest =>
                              (try simp only [Act.put, List.setIfInBounds_toArray, List.set_cons_zero, List.set_cons_succ])
                              refine wpAnyH_ready (rs := [6]) (by kernel_rfl) (by simp) ?_
                              refine AllReadyH.cons rfl (fun K hK => ?_) AllReadyH.nil
                              go_simp
                              (go_at_call 26; (with_reducible refine (c2.out _).mono ?_); rintro e w1 ⟨rfl, hb⟩; (try clear m0 m1 m2 m3 m4 m5); have hx := Ext.trans' hx hb; have hB := Ext.blk hb hB; obtain ⟨m0, m1, m2, m3, m4, m5⟩ := blk6 hB)
                              (try go_wp2_with fail)
                              refine hK.out _ _ ?_ (fun hHeld => ?_)
                              · (try dsimp only); (exact ⟨m0, m1, m2, m3, m4, m5, HV.out.ext hx⟩)
                              clear hK K
                              (try simp only [Act.put, List.setIfInBounds_toArray, List.set_cons_zero, List.set_cons_succ])
                              refine takeD (i := 7) (d := (some 10)) (v := ?_) rfl (by kernel_rfl) (by kernel_rfl) (by kernel_rfl) (by kernel_rfl) (fun _ _ _ h => h) (Or.inl ⟨by kernel_rfl, ?hy⟩) (by assumption) ?rest
                              case hy => (intro w hSw; (try dsimp only at hSw); go_simp; (try with_reducible rfl))
                              case rest =>
                                (try simp only [Act.put, List.setIfInBounds_toArray, List.set_cons_zero, List.set_cons_succ])
                                refine takeD (i := 8) (d := (some 11)) (v := ?_) rfl (by kernel_rfl) (by kernel_rfl) (by kernel_rfl) (by kernel_rfl) (fun _ _ _ h => h) (Or.inl ⟨by kernel_rfl, ?hy⟩) (by assumption) ?rest
                                case hy => (intro w hSw; (try dsimp only at hSw); go_simp; (try with_reducible rfl))
                                case rest =>
                                  (try simp only [Act.put, List.setIfInBounds_toArray, List.set_cons_zero, List.set_cons_succ])
                                  refine wpAnyH_ready (rs := [11]) (by kernel_rfl) (by simp) ?_
                                  refine AllReadyH.cons rfl (fun K hK => ?_) AllReadyH.nil
                                  go_simp
                                  (go_at_call 50; (with_reducible refine (c3.out _).mono ?_); rintro e w1 ⟨rfl, hb⟩; (try clear m0 m1 m2 m3 m4 m5); have hx := Ext.trans' hx hb; have hB := Ext.blk hb hB; obtain ⟨m0, m1, m2, m3, m4, m5⟩ := blk6 hB)
                                  (try go_wp2_with fail)
                                  refine hK.out _ _ ?_ (fun hHeld => ?_)
                                  · (try dsimp only); (exact ⟨m0, m1, m2, m3, m4, m5, HV.out.ext hx⟩)
                                  clear hK K
                                  (try simp only [Act.put, List.setIfInBounds_toArray, List.set_cons_zero, List.set_cons_succ])
                                  refine takeD (i := 12) (d := (some 15)) (v := ?_) rfl (by kernel_rfl) (by kernel_rfl) (by kernel_rfl) (by kernel_rfl) (fun _ _ _ h => h) (Or.inl ⟨by kernel_rfl, ?hy⟩) (by assumption) ?rest
                                  case hy => (intro w hSw; (try dsimp only at hSw); go_simp; (try with_reducible rfl))
                                  case rest =>
                                    (try simp only [Act.put, List.setIfInBounds_toArray, List.set_cons_zero, List.set_cons_succ])
                                    refine takeD (i := 13) (d := (some 16)) (v := ?_) rfl (by kernel_rfl) (by kernel_rfl) (by kernel_rfl) (by kernel_rfl) (fun _ _ _ h => h) (Or.inl ⟨by kernel_rfl, ?hy⟩) (by assumption) ?rest
                                    case hy => (intro w hSw; (try dsimp only at hSw); go_simp; (try with_reducible rfl))
                                    case rest =>
                                      (try simp only [Act.put, List.setIfInBounds_toArray, List.set_cons_zero, List.set_cons_succ])
                                      refine wpAnyH_ready (rs := [16]) (by kernel_rfl) (by simp) ?_
                                      refine AllReadyH.cons rfl (fun K hK => ?_) AllReadyH.nil
                                      go_simp
                                      (go_at_call 49; (with_reducible refine (c4.out _).mono ?_); rintro e w1 ⟨rfl, hb⟩; (try clear m0 m1 m2 m3 m4 m5); have hx := Ext.trans' hx hb; have hB := Ext.blk hb hB; obtain ⟨m0, m1, m2, m3, m4, m5⟩ := blk6 hB)
                                      (try go_wp2_with fail)
                                      refine hK.out _ _ ?_ (fun hHeld => ?_)
                                      · (try dsimp only); (exact ⟨m0, m1, m2, m3, m4, m5, HV.out.ext hx⟩)
                                      clear hK K
                                      (try simp only [Act.put, List.setIfInBounds_toArray, List.set_cons_zero, List.set_cons_succ])
                                      refine takeD (i := 17) (d := (some 20)) (v := ?_) rfl (by kernel_rfl) (by kernel_rfl) (by kernel_rfl) (by kernel_rfl) (fun _ _ _ h => h) (Or.inl ⟨by kernel_rfl, ?hy⟩) (by assumption) ?rest
                                      case hy => (intro w hSw; (try dsimp only at hSw); go_simp; (try with_reducible rfl))
                                      case rest =>
                                        (try simp only [Act.put, List.setIfInBounds_toArray, List.set_cons_zero, List.set_cons_succ])
                                        refine takeD (i := 18) (d := (some 21)) (v := ?_) rfl (by kernel_rfl) (by kernel_rfl) (by kernel_rfl) (by kernel_rfl) (fun _ _ _ h => h) (Or.inl ⟨by kernel_rfl, ?hy⟩) (by assumption) ?rest
                                        case hy => (intro w hSw; (try dsimp only at hSw); go_simp; (try with_reducible rfl))
                                        case rest =>
                                          (try simp only [Act.put, List.setIfInBounds_toArray, List.set_cons_zero, List.set_cons_succ])
                                          refine wpAnyH_ready (rs := [21]) (by kernel_rfl) (by simp) ?_
                                          refine AllReadyH.cons rfl (fun K hK => ?_) AllReadyH.nil
                                          go_simp
                                          (go_at_call 51; (with_reducible refine (c5.out _).mono ?_); rintro e w1 ⟨rfl, hb⟩; (try clear m0 m1 m2 m3 m4 m5); have hx := Ext.trans' hx hb; have hB := Ext.blk hb hB; obtain ⟨m0, m1, m2, m3, m4, m5⟩ := blk6 hB)
                                          (try go_wp2_with fail)
                                          refine hK.out _ _ ?_ (fun hHeld => ?_)
                                          · (try dsimp only); (exact ⟨m0, m1, m2, m3, m4, m5, HV.out.ext hx⟩)
                                          clear hK K
                                          (try simp only [Act.put, List.setIfInBounds_toArray, List.set_cons_zero, List.set_cons_succ])
                                          refine takeD (i := 22) (d := (some 25)) (v := ?_) rfl (by kernel_rfl) (by kernel_rfl) (by kernel_rfl) (by kernel_rfl) (fun _ _ _ h => h) (Or.inl ⟨by kernel_rfl, ?hy⟩) (by assumption) ?rest
                                          case hy => (intro w hSw; (try dsimp only at hSw); go_simp; (try with_reducible rfl))
                                          case rest =>
                                            (try simp only [Act.put, List.setIfInBounds_toArray, List.set_cons_zero, List.set_cons_succ])
                                            refine takeD (i := 23) (d := (some 26)) (v := ?_) rfl (by kernel_rfl) (by kernel_rfl) (by kernel_rfl) (by kernel_rfl) (fun _ _ _ h => h) (Or.inl ⟨by kernel_rfl, ?hy⟩) (by assumption) ?rest
                                            case hy => (intro w hSw; (try dsimp only at hSw); go_simp; (try with_reducible rfl))
                                            case rest =>
                                              (try simp only [Act.put, List.setIfInBounds_toArray, List.set_cons_zero, List.set_cons_succ])
                                              refine wpAnyH_ready (rs := [27]) (by kernel_rfl) (by simp) ?_
                                              refine AllReadyH.cons rfl (fun K hK => ?_) AllReadyH.nil
                                              go_simp
                                              (go_at_call 51; (with_reducible refine (c6.out _).mono ?_); rintro e w1 ⟨rfl, hb⟩; (try clear m0 m1 m2 m3 m4 m5); have hx := Ext.trans' hx hb; have hB := Ext.blk hb hB; obtain ⟨m0, m1, m2, m3, m4, m5⟩ := blk6 hB)
                                              (try go_wp2_with fail)
                                              refine hK.out _ _ ?_ (fun hHeld => ?_)
                                              · (try dsimp only); (exact ⟨m0, m1, m2, m3, m4, m5, HV.out.ext hx⟩)
                                              clear hK K
                                              (try simp only [Act.put, List.setIfInBounds_toArray, List.set_cons_zero, List.set_cons_succ])
                                              refine takeD (i := 28) (d := (some 31)) (v := ?_) rfl (by kernel_rfl) (by kernel_rfl) (by kernel_rfl) (by kernel_rfl) (fun _ _ _ h => h) (Or.inl ⟨by kernel_rfl, ?hy⟩) (by assumption) ?rest
                                              case hy => (intro w hSw; (try dsimp only at hSw); go_simp; (try with_reducible rfl))
                                              case rest =>
                                                (try simp only [Act.put, List.setIfInBounds_toArray, List.set_cons_zero, List.set_cons_succ])
                                                refine takeD (i := 29) (d := (some 2)) (v := ?_) rfl (by kernel_rfl) (by kernel_rfl) (by kernel_rfl) (by kernel_rfl) (fun _ _ _ h => h) (Or.inl ⟨by kernel_rfl, ?hy⟩) (by assumption) ?rest
                                                case hy => (intro w hSw; (try dsimp only at hSw); go_simp; (try with_reducible rfl))
                                                case rest =>
                                                  (try simp only [Act.put, List.setIfInBounds_toArray, List.set_cons_zero, List.set_cons_succ])
                                                  refine wpAnyH_done (by kernel_rfl) ?_ _
                                                  go_wp2
                                                  go_ret
                                                  exact ⟨rfl, hx⟩
end Go.Proofs.YtapngkjgagapeaaDoor
