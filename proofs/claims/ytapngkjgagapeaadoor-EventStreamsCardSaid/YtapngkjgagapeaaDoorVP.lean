import Derived.Test.YtapngkjgagapeaaDoorV11
/- The package's Parse of a line. -/
namespace Go.Proofs.YtapngkjgagapeaaDoor
open Go.RowKit

def PPostV (w : World) (o : Option Evt) (e : Ending) (w' : World) : Prop :=
  match o with
  | none => e = .returned (.tuple #[(.agg #[.int .i64 0, .string ⟨#[]⟩, .slice none 0 0, .int .u64 0, .int .u64 0, .int .u64 0]), .int .i64 6]) ∧ Ext w w'
  | some x => ∃ v', e = .returned (.tuple #[.agg #[.int .i64 x.kind, .string (bs x.e.key), v', .int .u64 x.e.birth, .int .u64 x.e.dl, .int .u64 x.now], .int .i64 0]) ∧ By w' v' x.e.val ∧ Ext w w' ∧ OwnB w.heap.size w' v' x.e.val
theorem OwnB.st6 {C : Nat} {w : World} {v : Value} {l : List UInt8} (h : OwnB C w v l) {B : Nat} (hB : B < C) (a b c d e f : Value) : OwnB C (St6 w B a b c d e f) v l :=
  (((((h.setCell (p := ⟨B, 0, none⟩) hB _).setCell (p := ⟨B, 1, none⟩) hB _).setCell (p := ⟨B, 2, none⟩) hB _).setCell (p := ⟨B, 3, none⟩) hB _).setCell (p := ⟨B, 4, none⟩) hB _).setCell (p := ⟨B, 5, none⟩) hB _
theorem vcut_any (s : ByteArray) (w : World) (hs : s.size ≤ 1000000) :
    Calls Tryd.prog 60 #[.string s, .string ⟨#[32]⟩] w fun e w' => ∃ f, e = .returned (.tuple #[.string (bs (cutA s.data.toList)), .string (bs (cutZ s.data.toList)), .bool f]) ∧ Ext w w' := cut_any s w hs
theorem words_index (k : Nat) (h : k < 6) (w : World) : (Instr.index 93 (.agg #[.string (wordS 0), .string (wordS 1), .string (wordS 2), .string (wordS 3), .string (wordS 4), .string (wordS 5)]) (.int .i64 (k : Int))).run Tryd.prog w = .ok (.string (wordS k)) w := by
  obtain rfl | rfl | rfl | rfl | rfl | rfl : k = 0 ∨ k = 1 ∨ k = 2 ∨ k = 3 ∨ k = 4 ∨ k = 5 := by omega
  all_goals kernel_rfl
set_option maxRecDepth 100000 in
set_option maxHeartbeats 4000000 in
theorem vparse_no1 (s : ByteArray) (w : World) (hs : s.size ≤ 200000) (hw : EnvV w) (h : parseT (cutA s.data.toList) = none) :
    Calls Tryd.prog 40 #[.string s] w fun e w' => e = .returned (.tuple #[(.agg #[.int .i64 0, .string ⟨#[]⟩, .slice none 0 0, .int .u64 0, .int .u64 0, .int .u64 0]), .int .i64 6]) ∧ Ext w w' := by
  have z1 := cutZ_len s.data.toList
  have z0 := cutA_len s.data.toList
  have z2 := cutZ_len (cutZ s.data.toList)
  have hsl : s.data.toList.length = s.size := rfl
  have c1 : Box _ := ⟨fun w => vcut_any s w (by omega)⟩
  have c2 : Box _ := ⟨fun w => vcut_any (bs (cutZ s.data.toList)) w (by rw [bs_size]; omega)⟩
  have c3 : Box (∀ w', Ext w w' → Calls Tryd.prog 62 #[.string (bs (cutA s.data.toList))] w' fun e w'' => e = .returned (.tuple #[.int .u64 0, .int .i64 6]) ∧ Ext w' w'') := ⟨fun w' hx => by
    have h9 := parse_any (bs (cutA s.data.toList)) w' (by rw [bs_size]; omega) (hw.ext hx).env
    rw [bs_list, h] at h9
    exact h9⟩
  have c4 : Box (∀ w', Ext w w' → Calls Tryd.prog 63 #[.string (bs (cutZ (cutZ s.data.toList)))] w' fun e w'' => ∃ k v d b er, e = .returned (.tuple #[.agg #[.string k, v, .int .u64 d, .int .u64 b], .int .i64 er]) ∧ (∃ a n c, v = .slice a n c) ∧ Ext w' w'') := ⟨fun w' hx => (eparse_any (bs (cutZ (cutZ s.data.toList))) w' (by rw [bs_size]; omega) (hw.ext hx).env).mono fun e w'' hp => by
    cases hE : parseE (bs (cutZ (cutZ s.data.toList))).data.toList with
    | none => rw [hE] at hp; exact ⟨_, _, 0, 0, _, hp.1, ⟨none, 0, 0, rfl⟩, hp.2⟩
    | some x =>
      rw [hE] at hp
      obtain ⟨v', h1, h2, h3⟩ := hp
      obtain ⟨a, c, rfl⟩ := h2.shape
      exact ⟨_, _, _, _, _, h1, ⟨_, _, _, rfl⟩, h3⟩⟩
  rw [bs_list] at c2
  generalize bs (cutA s.data.toList) = x1 at *
  generalize bs (cutZ (cutZ s.data.toList)) = y2 at *
  generalize bs (cutZ s.data.toList) = y1 at *
  generalize bs (cutA (cutZ s.data.toList)) = x2 at *
  have hR := newblk w (.cells #[.int .i64 0, .string ⟨#[]⟩, .slice none 0 0, .int .u64 0, .int .u64 0, .int .u64 0] 28)
  have hx : Ext w (w.alloc (.cells #[.int .i64 0, .string ⟨#[]⟩, .slice none 0 0, .int .u64 0, .int .u64 0, .int .u64 0] 28)) := Ext.alloc (Below.refl _ _) _
  clear h hw z0 z1 z2 hsl
  go_enter Tryd.func40, Tryd.ntmps40
  go_wp2_with (first
    | (go_at_call 60; (with_reducible refine (c1.out _).mono ?_); rintro e w1 ⟨f1, rfl, hb⟩; have hx := Ext.trans' hx hb; have hR := Ext.blk hb hR)
    | (go_at_call 60; (with_reducible refine (c2.out _).mono ?_); rintro e w1 ⟨f2, rfl, hb⟩; have hx := Ext.trans' hx hb; have hR := Ext.blk hb hR)
    | (go_at_call 62; (with_reducible refine (c3.out _ hx).mono ?_); rintro e w1 ⟨rfl, hb⟩; have hx := Ext.trans' hx hb; have hR := Ext.blk hb hR)
    | (go_at_call 63; (with_reducible refine (c4.out _ hx).mono ?_); rintro e w1 ⟨k9, v9, d9, b9, e9, rfl, ⟨a9, n9, c9, rfl⟩, hb⟩; have hx := Ext.trans' hx hb; have hR := Ext.blk hb hR; have hx := Ext.alloc hx (.cells #[.string k9, .slice a9 n9 c9, .int .u64 d9, .int .u64 b9] 83); have hR := Ext.blk (Ext.alloc (Below.refl _ _) (.cells #[.string k9, .slice a9 n9 c9, .int .u64 d9, .int .u64 b9] 83)) hR; obtain ⟨m0, m1, m2, m3, m4, m5⟩ := blk6 hR; obtain ⟨f0, f1, f2, f3, f4, f5⟩ := blk6f hR))
  refine bodyPost_ret (v := .tuple #[(.agg #[.int .i64 0, .string ⟨#[]⟩, .slice none 0 0, .int .u64 0, .int .u64 0, .int .u64 0]), .int .i64 6]) ?_ rfl ⟨rfl, Ext.st6 hx (Nat.le_refl _) _ _ _ _ _ _⟩
  simp [results, Tryd.results40, go_sem, m0, m1, m2, m3, m4, m5]

set_option maxRecDepth 100000 in
set_option maxHeartbeats 4000000 in
theorem vparse_no2 (s : ByteArray) (w : World) (hs : s.size ≤ 200000) (hw : EnvV w) (tt : Nat) (h : parseT (cutA s.data.toList) = some tt) (hE : parseE (cutZ (cutZ s.data.toList)) = none) :
    Calls Tryd.prog 40 #[.string s] w fun e w' => e = .returned (.tuple #[(.agg #[.int .i64 0, .string ⟨#[]⟩, .slice none 0 0, .int .u64 0, .int .u64 0, .int .u64 0]), .int .i64 6]) ∧ Ext w w' := by
  have z1 := cutZ_len s.data.toList
  have z0 := cutA_len s.data.toList
  have z2 := cutZ_len (cutZ s.data.toList)
  have hsl : s.data.toList.length = s.size := rfl
  have c1 : Box _ := ⟨fun w => vcut_any s w (by omega)⟩
  have c2 : Box _ := ⟨fun w => vcut_any (bs (cutZ s.data.toList)) w (by rw [bs_size]; omega)⟩
  have c3 : Box (∀ w', Ext w w' → Calls Tryd.prog 62 #[.string (bs (cutA s.data.toList))] w' fun e w'' => e = .returned (.tuple #[.int .u64 tt, .int .i64 0]) ∧ Ext w' w'') := ⟨fun w' hx => by
    have h9 := parse_any (bs (cutA s.data.toList)) w' (by rw [bs_size]; omega) (hw.ext hx).env
    rw [bs_list, h] at h9
    exact h9⟩
  have c4 : Box (∀ w', Ext w w' → Calls Tryd.prog 63 #[.string (bs (cutZ (cutZ s.data.toList)))] w' fun e w'' => e = .returned (.tuple #[zeroE, .int .i64 6]) ∧ Ext w' w'') := ⟨fun w' hx => by
    have h9 := eparse_any (bs (cutZ (cutZ s.data.toList))) w' (by rw [bs_size]; omega) (hw.ext hx).env
    rw [bs_list, hE] at h9
    exact h9⟩
  rw [bs_list] at c2
  generalize bs (cutA s.data.toList) = x1 at *
  generalize bs (cutZ (cutZ s.data.toList)) = y2 at *
  generalize bs (cutZ s.data.toList) = y1 at *
  generalize bs (cutA (cutZ s.data.toList)) = x2 at *
  have hR := newblk w (.cells #[.int .i64 0, .string ⟨#[]⟩, .slice none 0 0, .int .u64 0, .int .u64 0, .int .u64 0] 28)
  have hx : Ext w (w.alloc (.cells #[.int .i64 0, .string ⟨#[]⟩, .slice none 0 0, .int .u64 0, .int .u64 0, .int .u64 0] 28)) := Ext.alloc (Below.refl _ _) _
  clear h hE hw z0 z1 z2 hsl
  go_enter Tryd.func40, Tryd.ntmps40
  go_wp2_with (first
    | (go_at_call 60; (with_reducible refine (c1.out _).mono ?_); rintro e w1 ⟨f1, rfl, hb⟩; have hx := Ext.trans' hx hb; have hR := Ext.blk hb hR)
    | (go_at_call 60; (with_reducible refine (c2.out _).mono ?_); rintro e w1 ⟨f2, rfl, hb⟩; have hx := Ext.trans' hx hb; have hR := Ext.blk hb hR)
    | (go_at_call 62; (with_reducible refine (c3.out _ hx).mono ?_); rintro e w1 ⟨rfl, hb⟩; have hx := Ext.trans' hx hb; have hR := Ext.blk hb hR)
    | (go_at_call 63; (with_reducible refine (c4.out _ hx).mono ?_); rintro e w1 ⟨rfl, hb⟩; have hx := Ext.trans' hx hb; have hR := Ext.blk hb hR; have hx := Ext.alloc hx (.cells zeroC 83); have hR := Ext.blk (Ext.alloc (Below.refl _ _) (.cells zeroC 83)) hR; obtain ⟨m0, m1, m2, m3, m4, m5⟩ := blk6 hR; obtain ⟨f0, f1, f2, f3, f4, f5⟩ := blk6f hR))
  refine bodyPost_ret (v := .tuple #[(.agg #[.int .i64 0, .string ⟨#[]⟩, .slice none 0 0, .int .u64 0, .int .u64 0, .int .u64 0]), .int .i64 6]) ?_ rfl ⟨rfl, Ext.st6 hx (Nat.le_refl _) _ _ _ _ _ _⟩
  simp [results, Tryd.results40, go_sem, m0, m1, m2, m3, m4, m5]
set_option maxRecDepth 100000 in
set_option maxHeartbeats 8000000 in
theorem vparse_yes (s : ByteArray) (w : World) (hs : s.size ≤ 200000) (hw : EnvV w) (tt : Nat) (x : Ent) (h : parseT (cutA s.data.toList) = some tt) (hE : parseE (cutZ (cutZ s.data.toList)) = some x) :
    Calls Tryd.prog 40 #[.string s] w (PPostV w (if Evt.fine ⟨kindL (cutA (cutZ s.data.toList)), x, tt⟩ = true then some ⟨kindL (cutA (cutZ s.data.toList)), x, tt⟩ else none)) := by
  have z1 := cutZ_len s.data.toList
  have z0 := cutA_len s.data.toList
  have z2 := cutZ_len (cutZ s.data.toList)
  have hsl : s.data.toList.length = s.size := rfl
  obtain ⟨xi, xf, xt⟩ := parseE_of _ _ hE
  have hxd := xi.dl; have hxb := xi.birth; have htt := parseT_le _ _ h
  unfold never at hxd hxb htt
  have hkl : x.key.length ≤ 250 ∧ x.val.length ≤ 65536 := by
    unfold Ent.fine at xf
    simp only [Bool.and_eq_true, decide_eq_true_eq] at xf
    exact ⟨xf.1.1.2, xf.1.2⟩
  have c1 : Box _ := ⟨fun w => vcut_any s w (by omega)⟩
  have c2 : Box _ := ⟨fun w => vcut_any (bs (cutZ s.data.toList)) w (by rw [bs_size]; omega)⟩
  have c3 : Box (∀ w', Ext w w' → Calls Tryd.prog 62 #[.string (bs (cutA s.data.toList))] w' fun e w'' => e = .returned (.tuple #[.int .u64 tt, .int .i64 0]) ∧ Ext w' w'') := ⟨fun w' hx => by
    have h9 := parse_any (bs (cutA s.data.toList)) w' (by rw [bs_size]; omega) (hw.ext hx).env
    rw [bs_list, h] at h9
    exact h9⟩
  have c4 : Box (∀ w', Ext w w' → Calls Tryd.prog 63 #[.string (bs (cutZ (cutZ s.data.toList)))] w' fun e w'' => ∃ a c, e = .returned (.tuple #[.agg #[.string (bs x.key), .slice a x.val.length c, .int .u64 x.dl, .int .u64 x.birth], .int .i64 0]) ∧ OwnB w'.heap.size w'' (.slice a x.val.length c) x.val ∧ Ext w' w'') := ⟨fun w' hx => by
    have h9 := eparse_any (bs (cutZ (cutZ s.data.toList))) w' (by rw [bs_size]; omega) (hw.ext hx).env
    rw [bs_list, hE] at h9
    refine h9.mono fun e w'' hp => ?_
    obtain ⟨v', h1, h2, h3⟩ := hp
    obtain ⟨a, c, rfl⟩ := h2.shape
    exact ⟨a, c, h1, h2, h3⟩⟩
  rw [bs_list] at c2
  have hwd : Box (∀ j, 1 ≤ j → j ≤ 5 → ((wordS j).toList == (bs (cutA (cutZ s.data.toList))).toList) = decide (j = kindL (cutA (cutZ s.data.toList)))) := ⟨fun j h1 h5 => word_eq j _ h1 h5⟩
  have hq5 := kindL_le (cutA (cutZ s.data.toList))
  have cV : Box (∀ (j : Nat) (a : Option Addr) (c : Nat) (w : World), Calls Tryd.prog 14 #[.agg #[.int .i64 (j : Int), .string (bs x.key), .slice a x.val.length c, .int .u64 x.birth, .int .u64 x.dl, .int .u64 tt]] w fun e w' => e = .returned (.bool (Evt.fine ⟨j, x, tt⟩)) ∧ Ext w w') := ⟨fun j a c w => by
    have h9 := vvalid_any (j : Int) (bs x.key) a x.val.length c x.birth x.dl tt w (by rw [bs_size]; omega) (by omega) (by omega) (by omega) (by omega)
    rw [bs_size, ok_fine] at h9
    exact h9⟩
  have hf0 : Box (Evt.fine ⟨0, x, tt⟩ = false) := ⟨rfl⟩
  generalize bs (cutA s.data.toList) = x1 at *
  generalize bs (cutZ (cutZ s.data.toList)) = y2 at *
  generalize bs (cutZ s.data.toList) = y1 at *
  generalize bs (cutA (cutZ s.data.toList)) = x2 at *
  generalize kindL (cutA (cutZ s.data.toList)) = q at *
  obtain ⟨Post, hP⟩ : ∃ Post, Post = PPostV w (if Evt.fine ⟨q, x, tt⟩ = true then some ⟨q, x, tt⟩ else none) := ⟨_, rfl⟩
  rw [← hP]
  have HP := Box.mk hP
  clear hP
  have hR := newblk w (.cells #[.int .i64 0, .string ⟨#[]⟩, .slice none 0 0, .int .u64 0, .int .u64 0, .int .u64 0] 28)
  have hx : Ext w (w.alloc (.cells #[.int .i64 0, .string ⟨#[]⟩, .slice none 0 0, .int .u64 0, .int .u64 0, .int .u64 0] 28)) := Ext.alloc (Below.refl _ _) _
  have hW := Box.mk hw
  have hix := words_index
  have hxl : Box (x.val.length ≤ 140737488355328) := ⟨by omega⟩
  clear h hE hw z0 z1 z2 hsl xi xf xt hxd hxb htt hkl
  go_enter Tryd.func40, Tryd.ntmps40
  go_wp2_with (first
    | (go_at_call 60; (with_reducible refine (c1.out _).mono ?_); rintro e w1 ⟨f1, rfl, hb⟩; have hx := Ext.trans' hx hb; have hR := Ext.blk hb hR)
    | (go_at_call 60; (with_reducible refine (c2.out _).mono ?_); rintro e w1 ⟨f2, rfl, hb⟩; have hx := Ext.trans' hx hb; have hR := Ext.blk hb hR)
    | (go_at_call 62; (with_reducible refine (c3.out _ hx).mono ?_); rintro e w1 ⟨rfl, hb⟩; have hx := Ext.trans' hx hb; have hR := Ext.blk hb hR)
    | (go_at_call 63; (with_reducible refine (c4.out _ hx).mono ?_); rintro e w4 ⟨a, c, rfl, hv, hb⟩; have hv := OwnB.mono hv (C := w.heap.size + 1) (blk_lt hR); have hx := Ext.trans' hx hb; have hR := Ext.blk hb hR; have hx := Ext.alloc hx (.cells #[.string (bs x.key), .slice a x.val.length c, .int .u64 x.dl, .int .u64 x.birth] 83); have hR := Ext.blk (Ext.alloc (Below.refl _ _) (.cells #[.string (bs x.key), .slice a x.val.length c, .int .u64 x.dl, .int .u64 x.birth] 83)) hR; have hX := newblk w4 (.cells #[.string (bs x.key), .slice a x.val.length c, .int .u64 x.dl, .int .u64 x.birth] 83); have hv := OwnB.ext hv (Ext.alloc (Below.refl _ _) (.cells #[.string (bs x.key), .slice a x.val.length c, .int .u64 x.dl, .int .u64 x.birth] 83)); have g0 := (hW.out.ext hx).word 0 (by omega); have g1 := (hW.out.ext hx).word 1 (by omega); have g2 := (hW.out.ext hx).word 2 (by omega); have g3 := (hW.out.ext hx).word 3 (by omega); have g4 := (hW.out.ext hx).word 4 (by omega); have g5 := (hW.out.ext hx).word 5 (by omega)))
  generalize w4.heap.size = X at *
  clear g0 g1 g2 g3 g4 g5
  have HR := Box.mk hR; have HX := Box.mk hX; have HV := Box.mk hv; have HW := Box.mk hx
  clear hR hX hv hx
  go_loopw [46] (fun i wr => ∃ j : Nat, j ≤ 6 ∧ i = .int .i64 j ∧ Box (Evt.fine ⟨q, x, tt⟩ = true → j ≤ q) ∧ Box (wr.heap[w.heap.size]? = some (.cells #[.int .i64 0, .string ⟨#[]⟩, .slice none 0 0, .int .u64 0, .int .u64 0, .int .u64 0] 28 (0, 0))) ∧ Box (wr.heap[X]? = some (.cells #[.string (bs x.key), .slice a x.val.length c, .int .u64 x.dl, .int .u64 x.birth] 83 (0, 0))) ∧ Box (OwnB (w.heap.size + 1) wr (.slice a x.val.length c) x.val) ∧ Box (Ext w wr)) (fun i _ => 6 - (intOf i).toNat)
  case atStart => exact ⟨0, by omega, rfl, ⟨fun _ => Nat.zero_le _⟩, HR, HX, HV, HW⟩
  case round =>
    obtain ⟨j, hj6, rfl, hq, HR, HX, HV, HW⟩ := hrel
    by_cases hlt : j < 6
    · have hixj := hix j hlt
      obtain ⟨b, hb1, hb2⟩ : ∃ b, ((wordS j).toList == x2.toList) = b ∧ Box (1 ≤ j → b = decide (j = q)) := ⟨_, rfl, ⟨fun h1 => hwd.out j h1 (by omega)⟩⟩
      have cj : Box _ := ⟨fun a c w => cV.out j a c w⟩
      obtain ⟨f, hf⟩ : ∃ f, f = Evt.fine ⟨j, x, tt⟩ := ⟨_, rfl⟩
      rw [← hf] at cj
      have Hf := Box.mk hf
      clear hix hf
      obtain ⟨n0, n1, n2, n3, _⟩ := blk4 HX.out
      have hA : Box (Ext wr (wr.alloc (.cells #[.int .i64 (j : Int), .string (bs x.key), .slice a x.val.length c, .int .u64 x.birth, .int .u64 x.dl, .int .u64 tt] 28))) := ⟨Ext.alloc (Below.refl _ _) _⟩
      have hVB := Box.mk (newblk wr (.cells #[.int .i64 (j : Int), .string (bs x.key), .slice a x.val.length c, .int .u64 x.birth, .int .u64 x.dl, .int .u64 tt] 28))
      generalize wordS j = yw at *
      cases b with
      | false =>
        have hq2 : Box (Evt.fine ⟨q, x, tt⟩ = true → j + 1 ≤ q) := ⟨fun hfq => by
          have h1 := hq.out hfq
          obtain ⟨k1, _, _⟩ := Evt.fine_k hfq
          simp only at k1
          by_cases e : j = q
          · have h9 := hb2.out (by omega)
            rw [decide_eq_true e] at h9
            cases h9
          · omega⟩
        have HR2 := Box.mk (Ext.blk hA.out HR.out)
        have HX2 := Box.mk (Ext.blk hA.out HX.out)
        have HV2 := Box.mk (OwnB.ext HV.out hA.out)
        have HW2 := Box.mk (Ext.trans' HW.out hA.out)
        go_wp2
        go_roundw
        case rel => exact ⟨j + 1, by omega, by go_num, hq2, HR2, HX2, HV2, HW2⟩
        case measure => simp [intOf]; omega
      | true =>
        cases f with
        | false =>
          have hq2 : Box (Evt.fine ⟨q, x, tt⟩ = true → j + 1 ≤ q) := ⟨fun hfq => by
            have h1 := hq.out hfq
            by_cases e : j = q
            · have h9 := Hf.out
              rw [e, hfq] at h9
              cases h9
            · omega⟩
          go_wp2_with (first
            | (go_at_call 14; (with_reducible refine (cj.out _ _ _).mono ?_); rintro e w5 ⟨rfl, hb⟩; have hb5 := Box.mk (Ext.trans' hA.out hb)))
          have HR2 := Box.mk (Ext.blk hb5.out HR.out)
          have HX2 := Box.mk (Ext.blk hb5.out HX.out)
          have HV2 := Box.mk (OwnB.ext HV.out hb5.out)
          have HW2 := Box.mk (Ext.trans' HW.out hb5.out)
          go_roundw
          case rel => exact ⟨j + 1, by omega, by go_num, hq2, HR2, HX2, HV2, HW2⟩
          case measure => simp [intOf]; omega
        | true =>
          have hjq : Box (j = q) := ⟨by
            obtain ⟨k1, _, _⟩ := Evt.fine_k Hf.out.symm
            simp only at k1
            have h9 := hb2.out k1
            simpa using h9.symm⟩
          have hfin : Box (Post = PPostV w (some ⟨j, x, tt⟩)) := ⟨by rw [HP.out, ← hjq.out, ← Hf.out, if_pos rfl]⟩
          go_wp2_with (first
            | (go_at_call 14; (with_reducible refine (cj.out _ _ _).mono ?_); rintro e w5 ⟨rfl, hb⟩; have hb5 := Box.mk (Ext.trans' hA.out hb); have hR := Ext.blk hb5.out HR.out; obtain ⟨m0, m1, m2, m3, m4, m5⟩ := blk6 hR; obtain ⟨f0, f1, f2, f3, f4, f5⟩ := blk6f hR; obtain ⟨e0, e1, e2, e3, e4, e5⟩ := blk6 (Ext.blk hb hVB.out)))
          refine bodyPost_ret (v := .tuple #[.agg #[.int .i64 (j : Int), .string (bs x.key), .slice a x.val.length c, .int .u64 x.birth, .int .u64 x.dl, .int .u64 tt], .int .i64 0]) ?_ rfl ?_
          · simp [results, Tryd.results40, go_sem, m0, m1, m2, m3, m4, m5]
          · rw [hfin.out]
            have ho6 := OwnB.st6 (OwnB.ext HV.out hb5.out) (Nat.lt_succ_self w.heap.size) (.int .i64 (j : Int)) (.string (bs x.key)) (.slice a x.val.length c) (.int .u64 x.birth) (.int .u64 x.dl) (.int .u64 tt)
            exact ⟨_, rfl, ho6.by hxl.out, Ext.st6 (Ext.trans' HW.out hb5.out) (Nat.le_refl _) _ _ _ _ _ _, ho6.mono (Nat.le_succ _)⟩
    · obtain rfl : j = 6 := by omega
      have hfin : Box (Post = PPostV w none) := ⟨by rw [HP.out, if_neg (fun hfq => by have := hq.out hfq; omega)]⟩
      have hR := HR.out
      obtain ⟨m0, m1, m2, m3, m4, m5⟩ := blk6 hR
      obtain ⟨f0, f1, f2, f3, f4, f5⟩ := blk6f hR
      go_wp2
      refine bodyPost_ret (v := .tuple #[(.agg #[.int .i64 0, .string ⟨#[]⟩, .slice none 0 0, .int .u64 0, .int .u64 0, .int .u64 0]), .int .i64 6]) ?_ rfl ?_
      · simp [results, Tryd.results40, go_sem, m0, m1, m2, m3, m4, m5]
      · rw [hfin.out]
        exact ⟨rfl, Ext.st6 HW.out (Nat.le_refl _) _ _ _ _ _ _⟩
theorem vparse_any (s : ByteArray) (w : World) (hs : s.size ≤ 200000) (hw : EnvV w) : Calls Tryd.prog 40 #[.string s] w (PPostV w (parseV s.data.toList)) := by
  unfold parseV
  cases h : parseT (cutA s.data.toList) with
  | none => exact vparse_no1 s w hs hw h
  | some tt =>
    cases hE : parseE (cutZ (cutZ s.data.toList)) with
    | none => exact vparse_no2 s w hs hw tt h hE
    | some x => exact vparse_yes s w hs hw tt x h hE
end Go.Proofs.YtapngkjgagapeaaDoor
