import Derived.Test.YthlnhemdhlkhfaaDoorD25
/- The reference's Parse, walked. -/
namespace Go.Proofs.YthlnhemdhlkhfaaDoor
open Go.RowKit

theorem numG_le : ∀ (l : List UInt8) (m n : Nat) (r : List UInt8), m ≤ never → numG l m = some (n, r) → n ≤ never
  | [], m, n, r, hm, h => by simp only [numG, Option.some.injEq, Prod.mk.injEq] at h; omega
  | c :: l, m, n, r, hm, h => by
    simp only [numG] at h
    split at h
    · split at h
      · cases h
      · exact numG_le l _ n r (by unfold never at *; omega) h
    · simp only [Option.some.injEq, Prod.mk.injEq] at h; omega
theorem aft_le (s wd : ByteArray) : (aft s wd).n ≤ never := by
  unfold aft
  split
  · exact Nat.zero_le _
  · unfold numT
    split
    · exact Nat.zero_le _
    · rename_i n r h
      exact numG_le _ _ _ _ (Nat.zero_le _) h
/-- What the reference's Parse answers. -/
def RPost (s : ByteArray) (w : World) (e : Ending) (w' : World) : Prop :=
  Ext w w' ∧ ((∃ k a r p x, Vld k a r p x ∧ textL k a r p x = s.data.toList ∧ e = .returned (.tuple #[(.agg #[.int .i64 (k), .int .i64 (a), .int .i64 (r), .int .i64 (p), .int .u64 (x)]), .bool true])) ∨
    (e = .returned (.tuple #[(.agg #[.int .i64 (0), .int .i64 (0), .int .i64 (0), .int .i64 (0), .int .u64 (0)]), .bool false]) ∧ ∀ k a r p x, Vld k a r p x → textL k a r p x ≠ s.data.toList))
/-- Where no workload of kind k has the text s, or which one. -/
def RKind (s : ByteArray) (k : Nat) : Prop := ∀ a r p x, Vld k a r p x → textB k a r p x ≠ s
set_option maxRecDepth 100000 in
set_option maxHeartbeats 4000000 in
theorem rparse_any (s : ByteArray) (w : World) (hs : s.size ≤ 100000) : Calls Tryd.prog 22 #[.string s] w (RPost s w) := by
  unfold RPost
  have hx0 : Ext w (w.alloc (.cells #[.int .i64 (0), .int .i64 (0), .int .i64 (0), .int .i64 (0), .int .u64 (0)] 28)) := Ext.alloc (Below.refl _ _) _
  have hB0 := newblk w (.cells #[.int .i64 (0), .int .i64 (0), .int .i64 (0), .int .i64 (0), .int .u64 (0)] 28)
  go_enter Tryd.func22, Tryd.ntmps22
  go_wp2
  go_loopw [4] (fun i wr => ∃ k : Nat, 1 ≤ k ∧ k ≤ 7 ∧ i = .int .i64 k ∧ Box (∀ j, 1 ≤ j → j < k → RKind s j) ∧ Box (Ext w wr) ∧ Box (wr.heap[w.heap.size]? = some (.cells #[.int .i64 (0), .int .i64 (0), .int .i64 (0), .int .i64 (0), .int .u64 (0)] 28 (0, 0)))) (fun i _ => 7 - (intOf i).toNat)
  case atStart => exact ⟨1, by omega, by omega, rfl, ⟨fun j h1 h2 => by omega⟩, ⟨hx0⟩, ⟨hB0⟩⟩
  case round =>
    obtain ⟨k, hk1, hk7, rfl, hno, hx, hB⟩ := hrel
    obtain ⟨r0, r1, r2, r3, r4⟩ := blk5 hB.out
    obtain ⟨f0, f1, f2, f3, f4⟩ := frz5 hB.out
    by_cases hk6 : k ≤ 6
    · have z0 := wordB_size k
      obtain ⟨t1, ht1⟩ : ∃ t, t = aft s (wordB k ++ kP) := ⟨_, rfl⟩
      obtain ⟨t2, ht2⟩ : ∃ t, t = aft t1.r rP := ⟨_, rfl⟩
      obtain ⟨t3, ht3⟩ : ∃ t, t = aft t2.r pP := ⟨_, rfl⟩
      obtain ⟨t4, ht4⟩ : ∃ t, t = aft t3.r sP := ⟨_, rfl⟩
      have z1 : t1.r.size ≤ s.size := by rw [ht1]; exact aft_len _ _
      have z2 : t2.r.size ≤ t1.r.size := by rw [ht2]; exact aft_len _ _
      have z3 : t3.r.size ≤ t2.r.size := by rw [ht3]; exact aft_len _ _
      have y4 : t4.n ≤ never := by rw [ht4]; exact aft_le _ _
      have hall : Box (∀ a r p x, Vld k a r p x → textB k a r p x = s → t1.b = true ∧ t2.b = true ∧ t3.b = true ∧ t4.b = true ∧ t4.r = ⟨#[]⟩ ∧ t1.n = a ∧ t2.n = r ∧ t3.n = p ∧ t4.n = x) := ⟨fun a r p x V e => by
        obtain ⟨g1, g2, g3, g4⟩ := chain V
        rw [← e, g1] at ht1
        subst ht1
        rw [g2] at ht2
        subst ht2
        rw [g3] at ht3
        subst ht3
        rw [g4] at ht4
        subst ht4
        exact ⟨rfl, rfl, rfl, rfl, rfl, rfl, rfl, rfl, rfl⟩⟩
      have cw : Box _ := ⟨fun w => rwords_at k hk6 w⟩
      have c1 : Box (∀ w, Calls Tryd.prog 38 #[.string s, .string (wordB k ++ ⟨#[32, 107, 101, 121, 115, 61]⟩)] w fun e w' => e = .returned (.tuple #[.int .u64 t1.n, .string t1.r, .bool t1.b]) ∧ Ext w w') := ⟨fun w => by
        have := after_any s (wordB k ++ kP) w (by omega) (by rw [ByteArray.size_append]; show _ + 6 ≤ _; omega)
        rw [aft_v, ← ht1] at this
        exact this⟩
      have c2 : Box (∀ w, Calls Tryd.prog 38 #[.string t1.r, .string ⟨#[32, 114, 101, 113, 117, 101, 115, 116, 115, 61]⟩] w fun e w' => e = .returned (.tuple #[.int .u64 t2.n, .string t2.r, .bool t2.b]) ∧ Ext w w') := ⟨fun w => by
        have := after_any t1.r rP w (by omega) (by decide)
        rw [aft_v, ← ht2] at this
        exact this⟩
      have c3 : Box (∀ w, Calls Tryd.prog 38 #[.string t2.r, .string ⟨#[32, 112, 97, 114, 116, 61]⟩] w fun e w' => e = .returned (.tuple #[.int .u64 t3.n, .string t3.r, .bool t3.b]) ∧ Ext w w') := ⟨fun w => by
        have := after_any t2.r pP w (by omega) (by decide)
        rw [aft_v, ← ht3] at this
        exact this⟩
      have c4 : Box (∀ w, Calls Tryd.prog 38 #[.string t3.r, .string ⟨#[32, 115, 101, 101, 100, 61]⟩] w fun e w' => e = .returned (.tuple #[.int .u64 t4.n, .string t4.r, .bool t4.b]) ∧ Ext w w') := ⟨fun w => by
        have := after_any t3.r sP w (by omega) (by decide)
        rw [aft_v, ← ht4] at this
        exact this⟩
      clear ht1 ht2 ht3 ht4
      obtain ⟨n1, s1, b1⟩ := t1
      obtain ⟨n2, s2, b2⟩ := t2
      obtain ⟨n3, s3, b3⟩ := t3
      obtain ⟨n4, s4, b4⟩ := t4
      dsimp only at z1 z2 z3 y4 hall c1 c2 c3 c4
      have hX := hx.out
      have hR := hB.out
      have d6 : decide ((k : Int) ≤ 6) = true := decide_eq_true (by omega)
      have i0 : (0 : Int) ≤ (k : Int) := by omega
      have i7 : (k : Int) < 7 := by omega
      have i7n : k < 7 := by omega
      clear r0 r1 r2 r3 r4 f0 f1 f2 f3 f4
      have hno2 : Box (RKind s k → ∀ j, 1 ≤ j → j < k + 1 → RKind s j) := ⟨fun h j h1 h2 => by
        by_cases hj : j = k
        · rw [hj]; exact h
        · exact hno.out j h1 (by omega)⟩
      by_cases hbb : b1 = true ∧ b2 = true ∧ b3 = true ∧ b4 = true
      · obtain ⟨rfl, rfl, rfl, rfl⟩ := hbb
        by_cases hg : s4 = ⟨#[]⟩ ∧ n1 ≤ 5000 ∧ n2 ≤ 5000 ∧ n3 ≤ 5000
        · obtain ⟨rfl, h51, h52, h53⟩ := hg
          have g1 : (n1 : Int) ≤ 5000 := by omega
          have g2 : (n2 : Int) ≤ 5000 := by omega
          have g3 : (n3 : Int) ≤ 5000 := by omega
          have u1 : IntKind.i64.wrap (n1 : Int) = n1 := by rw [IntKind.wrap_i64]; omega
          have u2 : IntKind.i64.wrap (n2 : Int) = n2 := by rw [IntKind.wrap_i64]; omega
          have u3 : IntKind.i64.wrap (n3 : Int) = n3 := by rw [IntKind.wrap_i64]; omega
          have cv : Box _ := ⟨fun w => refValid_any k n1 n2 n3 n4 w⟩
          cases hv : vldL k n1 n2 n3 n4 with
          | false =>
            have hf : Box (RKind s k) := ⟨fun a r p x V e => by
              obtain ⟨-, -, -, -, -, g6, g7, g8, g9⟩ := hall.out a r p x V e
              rw [g6, g7, g8, g9, vld_of V] at hv
              cases hv⟩
            rw [hv] at cv
            generalize wordB k = y0 at *
            clear hall hno hv
            go_wp2_with (first
            | (go_at_call 32; (with_reducible refine (cw.out _).mono ?_); rintro e w1 ⟨rfl, m9, hb⟩; have hX := Ext.trans' hX hb; have hR := Ext.blk hb hR)
            | (go_at_call 38; (with_reducible refine (c1.out _).mono ?_); rintro e w1 ⟨rfl, hb⟩; have hX := Ext.trans' hX hb; have hR := Ext.blk hb hR)
            | (go_at_call 38; (with_reducible refine (c2.out _).mono ?_); rintro e w1 ⟨rfl, hb⟩; have hX := Ext.trans' hX hb; have hR := Ext.blk hb hR)
            | (go_at_call 38; (with_reducible refine (c3.out _).mono ?_); rintro e w1 ⟨rfl, hb⟩; have hX := Ext.trans' hX hb; have hR := Ext.blk hb hR)
            | (go_at_call 38; (with_reducible refine (c4.out _).mono ?_); rintro e w1 ⟨rfl, hb⟩; have hX := Ext.trans' hX hb; have hR := Ext.blk hb hR)
            | (go_at_call 12; (with_reducible refine (cv.out _).mono ?_); rintro e w2 ⟨rfl, hb⟩; have hX := Ext.trans' (Ext.alloc hX _) hb; have hR := Ext.blk hb (Ext.blk (Ext.alloc (Below.refl _ _) _) hR); have hA := Ext.blk hb (newblk _ _); obtain ⟨a0, a1, a2, a3, a4⟩ := blk5 hA))
            go_roundw
            case rel => exact ⟨k + 1, by omega, by omega, by go_num, ⟨hno2.out hf.out⟩, ⟨hX⟩, ⟨hR⟩⟩
            case measure => simp [intOf]; omega
          | true =>
            obtain ⟨k', hk', V⟩ := vld_to hv y4
            obtain rfl : k = k' := by omega
            have HV := Box.mk V
            have cx : Box _ := ⟨fun w => rtext_any (k := k) (a := n1) (r := n2) (p := n3) (s := n4) hk6 (by omega) (by omega) (by omega) V.s64 w⟩
            rw [hv] at cv
            by_cases he : textB k n1 n2 n3 n4 = s
            · have hsl : Box (textL k n1 n2 n3 n4 = s.data.toList) := ⟨by rw [← text_list, he]⟩
              rw [he] at cx
              have hee : (s.toList == s.toList) = true := by simp
              generalize wordB k = y0 at *
              clear hall hno hv V he hk'
              go_wp2_with (first
            | (go_at_call 32; (with_reducible refine (cw.out _).mono ?_); rintro e w1 ⟨rfl, m9, hb⟩; have hX := Ext.trans' hX hb; have hR := Ext.blk hb hR)
            | (go_at_call 38; (with_reducible refine (c1.out _).mono ?_); rintro e w1 ⟨rfl, hb⟩; have hX := Ext.trans' hX hb; have hR := Ext.blk hb hR)
            | (go_at_call 38; (with_reducible refine (c2.out _).mono ?_); rintro e w1 ⟨rfl, hb⟩; have hX := Ext.trans' hX hb; have hR := Ext.blk hb hR)
            | (go_at_call 38; (with_reducible refine (c3.out _).mono ?_); rintro e w1 ⟨rfl, hb⟩; have hX := Ext.trans' hX hb; have hR := Ext.blk hb hR)
            | (go_at_call 38; (with_reducible refine (c4.out _).mono ?_); rintro e w1 ⟨rfl, hb⟩; have hX := Ext.trans' hX hb; have hR := Ext.blk hb hR)
            | (go_at_call 12; (with_reducible refine (cv.out _).mono ?_); rintro e w2 ⟨rfl, hb⟩; have hX := Ext.trans' (Ext.alloc hX _) hb; have hR := Ext.blk hb (Ext.blk (Ext.alloc (Below.refl _ _) _) hR); have hA := Ext.blk hb (newblk _ _); obtain ⟨a0, a1, a2, a3, a4⟩ := blk5 hA)
            | (go_at_call 20; (with_reducible refine (cx.out _).mono ?_); rintro e w3 ⟨rfl, hb⟩; have hX := Ext.trans' hX hb; have hR := Ext.blk hb hR; have hA := Ext.blk hb hA; (try clear a0 a1 a2 a3 a4); obtain ⟨a0, a1, a2, a3, a4⟩ := blk5 hA; obtain ⟨r0, r1, r2, r3, r4⟩ := blk5 hR; obtain ⟨f0, f1, f2, f3, f4⟩ := frz5 hR))
              obtain ⟨q0, q1, q2, q3, q4⟩ := blk5 (sg_same (o := #[]) k n1 n2 n3 n4 hR)
              refine bodyPost_ret (v := .tuple #[(.agg #[.int .i64 (k), .int .i64 (n1), .int .i64 (n2), .int .i64 (n3), .int .u64 (n4)]), .bool true]) (by simp [results, Tryd.results22, go_sem, q0, q1, q2, q3, q4]) rfl ⟨?_, .inl ⟨k, n1, n2, n3, n4, HV.out, hsl.out, rfl⟩⟩
              exact ((((Below.setCell hX (p := ⟨w.heap.size, 0, none⟩) (Nat.le_refl _) _).setCell (p := ⟨w.heap.size, 1, none⟩) (Nat.le_refl _) _).setCell (p := ⟨w.heap.size, 2, none⟩) (Nat.le_refl _) _).setCell (p := ⟨w.heap.size, 3, none⟩) (Nat.le_refl _) _).setCell (p := ⟨w.heap.size, 4, none⟩) (Nat.le_refl _) _
            · have hf : Box (RKind s k) := ⟨fun a r p x V' e => by
                obtain ⟨-, -, -, -, -, g6, g7, g8, g9⟩ := hall.out a r p x V' e
                exact he (by rw [g6, g7, g8, g9]; exact e)⟩
              have hee : ((textB k n1 n2 n3 n4).toList == s.toList) = false := by
                rw [Lib.toList_data, Lib.toList_data]
                exact beq_eq_false_iff_ne.2 (fun e => he (by apply ByteArray.ext; apply Array.ext'; exact e))
              generalize textB k n1 n2 n3 n4 = y at *
              generalize wordB k = y0 at *
              clear hall hno hv V he hk'
              go_wp2_with (first
            | (go_at_call 32; (with_reducible refine (cw.out _).mono ?_); rintro e w1 ⟨rfl, m9, hb⟩; have hX := Ext.trans' hX hb; have hR := Ext.blk hb hR)
            | (go_at_call 38; (with_reducible refine (c1.out _).mono ?_); rintro e w1 ⟨rfl, hb⟩; have hX := Ext.trans' hX hb; have hR := Ext.blk hb hR)
            | (go_at_call 38; (with_reducible refine (c2.out _).mono ?_); rintro e w1 ⟨rfl, hb⟩; have hX := Ext.trans' hX hb; have hR := Ext.blk hb hR)
            | (go_at_call 38; (with_reducible refine (c3.out _).mono ?_); rintro e w1 ⟨rfl, hb⟩; have hX := Ext.trans' hX hb; have hR := Ext.blk hb hR)
            | (go_at_call 38; (with_reducible refine (c4.out _).mono ?_); rintro e w1 ⟨rfl, hb⟩; have hX := Ext.trans' hX hb; have hR := Ext.blk hb hR)
            | (go_at_call 12; (with_reducible refine (cv.out _).mono ?_); rintro e w2 ⟨rfl, hb⟩; have hX := Ext.trans' (Ext.alloc hX _) hb; have hR := Ext.blk hb (Ext.blk (Ext.alloc (Below.refl _ _) _) hR); have hA := Ext.blk hb (newblk _ _); obtain ⟨a0, a1, a2, a3, a4⟩ := blk5 hA)
            | (go_at_call 20; (with_reducible refine (cx.out _).mono ?_); rintro e w3 ⟨rfl, hb⟩; have hX := Ext.trans' hX hb; have hR := Ext.blk hb hR; have hA := Ext.blk hb hA; (try clear a0 a1 a2 a3 a4); obtain ⟨a0, a1, a2, a3, a4⟩ := blk5 hA; obtain ⟨r0, r1, r2, r3, r4⟩ := blk5 hR; obtain ⟨f0, f1, f2, f3, f4⟩ := frz5 hR))
              go_roundw
              case rel => exact ⟨k + 1, by omega, by omega, by go_num, ⟨hno2.out hf.out⟩, ⟨hX⟩, ⟨hR⟩⟩
              case measure => simp [intOf]; omega
        · have hf : Box (RKind s k) := ⟨fun a r p x V e => hg (by
            obtain ⟨-, -, -, -, g5, g6, g7, g8, -⟩ := hall.out a r p x V e
            have v1 := V.a2; have v2 := V.r2
            have v3 : p ≤ 4096 := by rcases V.k6 with h | h | h | h | h | h <;> omega
            exact ⟨g5, by omega, by omega, by omega⟩)⟩
          generalize wordB k = y0 at *
          clear hall hno
          have key : (s4.toList == []) = false ∨ ((s4.toList == []) = true ∧ ¬ (n1 : Int) ≤ 5000) ∨ ((s4.toList == []) = true ∧ (n1 : Int) ≤ 5000 ∧ ¬ (n2 : Int) ≤ 5000) ∨ ((s4.toList == []) = true ∧ (n1 : Int) ≤ 5000 ∧ (n2 : Int) ≤ 5000 ∧ ¬ (n3 : Int) ≤ 5000) := by
            by_cases h4 : s4 = ⟨#[]⟩
            · have e4 : (s4.toList == []) = true := by rw [Lib.toList_data, h4]; rfl
              right
              by_cases g1 : (n1 : Int) ≤ 5000
              · by_cases g2 : (n2 : Int) ≤ 5000
                · exact .inr (.inr ⟨e4, g1, g2, fun g3 => hg ⟨h4, by omega, by omega, by omega⟩⟩)
                · exact .inr (.inl ⟨e4, g1, g2⟩)
              · exact .inl ⟨e4, g1⟩
            · left
              rw [Lib.toList_data]
              exact beq_eq_false_iff_ne.2 (fun e => h4 (by apply ByteArray.ext; apply Array.ext'; exact e))
          clear hg
          rcases key with e4 | ⟨e4, e5⟩ | ⟨e4, e5, e6⟩ | ⟨e4, e5, e6, e7⟩
          all_goals
            go_wp2_with (first
            | (go_at_call 32; (with_reducible refine (cw.out _).mono ?_); rintro e w1 ⟨rfl, m9, hb⟩; have hX := Ext.trans' hX hb; have hR := Ext.blk hb hR)
            | (go_at_call 38; (with_reducible refine (c1.out _).mono ?_); rintro e w1 ⟨rfl, hb⟩; have hX := Ext.trans' hX hb; have hR := Ext.blk hb hR)
            | (go_at_call 38; (with_reducible refine (c2.out _).mono ?_); rintro e w1 ⟨rfl, hb⟩; have hX := Ext.trans' hX hb; have hR := Ext.blk hb hR)
            | (go_at_call 38; (with_reducible refine (c3.out _).mono ?_); rintro e w1 ⟨rfl, hb⟩; have hX := Ext.trans' hX hb; have hR := Ext.blk hb hR)
            | (go_at_call 38; (with_reducible refine (c4.out _).mono ?_); rintro e w1 ⟨rfl, hb⟩; have hX := Ext.trans' hX hb; have hR := Ext.blk hb hR))
            go_roundw
            case rel => exact ⟨k + 1, by omega, by omega, by go_num, ⟨hno2.out hf.out⟩, ⟨hX⟩, ⟨hR⟩⟩
            case measure => simp [intOf]; omega
      · have hf : Box (RKind s k) := ⟨fun a r p x V e => hbb (by obtain ⟨g1, g2, g3, g4, -⟩ := hall.out a r p x V e; exact ⟨g1, g2, g3, g4⟩)⟩
        have key : b1 = false ∨ (b1 = true ∧ b2 = false) ∨ (b1 = true ∧ b2 = true ∧ b3 = false) ∨ (b1 = true ∧ b2 = true ∧ b3 = true ∧ b4 = false) := by
          cases b1 <;> cases b2 <;> cases b3 <;> cases b4 <;> simp at hbb ⊢
        generalize wordB k = y0 at *
        clear hbb hall hno
        rcases key with rfl | ⟨rfl, rfl⟩ | ⟨rfl, rfl, rfl⟩ | ⟨rfl, rfl, rfl, rfl⟩
        all_goals
          go_wp2_with (first
          | (go_at_call 32; (with_reducible refine (cw.out _).mono ?_); rintro e w1 ⟨rfl, m9, hb⟩; have hX := Ext.trans' hX hb; have hR := Ext.blk hb hR)
          | (go_at_call 38; (with_reducible refine (c1.out _).mono ?_); rintro e w1 ⟨rfl, hb⟩; have hX := Ext.trans' hX hb; have hR := Ext.blk hb hR)
          | (go_at_call 38; (with_reducible refine (c2.out _).mono ?_); rintro e w1 ⟨rfl, hb⟩; have hX := Ext.trans' hX hb; have hR := Ext.blk hb hR)
          | (go_at_call 38; (with_reducible refine (c3.out _).mono ?_); rintro e w1 ⟨rfl, hb⟩; have hX := Ext.trans' hX hb; have hR := Ext.blk hb hR)
          | (go_at_call 38; (with_reducible refine (c4.out _).mono ?_); rintro e w1 ⟨rfl, hb⟩; have hX := Ext.trans' hX hb; have hR := Ext.blk hb hR))
          go_roundw
          case rel => exact ⟨k + 1, by omega, by omega, by go_num, ⟨hno2.out hf.out⟩, ⟨hX⟩, ⟨hR⟩⟩
          case measure => simp [intOf]; omega
    · obtain rfl : k = 7 := by omega
      have hnone : Box (∀ k a r p x, Vld k a r p x → textL k a r p x ≠ s.data.toList) := ⟨fun k a r p x V e => by
        have hk : 1 ≤ k ∧ k ≤ 6 := by rcases V.k6 with h | h | h | h | h | h <;> omega
        exact hno.out k hk.1 (by omega) a r p x V (by apply ByteArray.ext; apply Array.ext'; rw [text_list]; exact e)⟩
      clear hno
      go_wp2
      obtain ⟨q0, q1, q2, q3, q4⟩ := blk5 (sg_same (o := #[]) 0 0 0 0 0 hB.out)
      refine bodyPost_ret (v := .tuple #[(.agg #[.int .i64 (0), .int .i64 (0), .int .i64 (0), .int .i64 (0), .int .u64 (0)]), .bool false]) (by simp [results, Tryd.results22, go_sem, q0, q1, q2, q3, q4]) rfl ⟨?_, .inr ⟨rfl, hnone.out⟩⟩
      exact ((((Below.setCell hx.out (p := ⟨w.heap.size, 0, none⟩) (Nat.le_refl _) _).setCell (p := ⟨w.heap.size, 1, none⟩) (Nat.le_refl _) _).setCell (p := ⟨w.heap.size, 2, none⟩) (Nat.le_refl _) _).setCell (p := ⟨w.heap.size, 3, none⟩) (Nat.le_refl _) _).setCell (p := ⟨w.heap.size, 4, none⟩) (Nat.le_refl _) _
end Go.Proofs.YthlnhemdhlkhfaaDoor
