import Derived.Test.YtapngkjgagapeaaDoorVT
import Derived.Deep.CutRange
/- The law's known. -/
namespace Go.Proofs.YtapngkjgagapeaaDoor
open Go.RowKit

theorem fine_A : evA.fine = true := by decide
theorem fine_C : evC'.fine = true := by decide
theorem in_A : evA.In := ⟨⟨by decide, by decide⟩, by decide⟩
def zz : Nat → Nat := fun _ => 0
theorem Own.ge {S B : Nat} {L : List Nd} {w : World} {cs : Nat → Nat} {n : Nat} (h : Strm w S L cs n) (hS : B ≤ S) : ∀ x, Own S L x → B ≤ x := by
  rintro x (rfl | ⟨m, hm, rfl⟩)
  · exact hS
  · have := h.up m hm; omega
theorem want_one (w w' : World) (S : Nat) (u : Value) (v : Evt) (hu : ∃ p q, u = .slice p v.e.val.length q) (hv : By w u v.e.val) (hno : NoB w S) (hm : Mut (fun j => j = S) (w.alloc (.cells #[.int .i64 v.kind, .string (bs v.e.key), u, .int .u64 v.e.birth, .int .u64 v.e.dl, .int .u64 v.now] 28)) w') :
    Es w' (.slice (some ⟨w.heap.size, 0, none⟩) 1 1) [⟨0, u, v⟩] := by
  have hlt : S < w.heap.size := by
    obtain ⟨cs, T, h, _⟩ := hno
    exact blk_lt h
  have hx : Ext w (w.alloc (.cells #[.int .i64 v.kind, .string (bs v.e.key), u, .int .u64 v.e.birth, .int .u64 v.e.dl, .int .u64 v.now] 28)) := Ext.alloc (Below.refl _ _) _
  have hb := newblk w (.cells #[.int .i64 v.kind, .string (bs v.e.key), u, .int .u64 v.e.birth, .int .u64 v.e.dl, .int .u64 v.now] 28)
  have hb' := (hm.other _ (blk_lt hb) (by omega)).trans hb
  refine ⟨some ⟨w.heap.size, 0, none⟩, 1, rfl, by simp, by simp, fun j x hj => ⟨w.heap.size, 0, rfl, ?_⟩, fun m hm' => ?_⟩
  · rw [Lib.cell_of_heap hb', Nat.zero_add]
    simpa [evs, evC] using hj
  · simp at hm'; subst hm'
    refine ⟨hu, By.mut hm (fun j hj => ?_) (By.ext hx hv)⟩
    obtain ⟨cs, T, h, h2⟩ := hno
    subst hj
    exact ⟨cs, T, Ext.blk hx h, h2⟩

set_option maxRecDepth 100000 in
set_option maxHeartbeats 8000000 in
theorem known_any (w : World) (hw : EnvV w) : Calls Tryd.prog 11 #[] w fun e w' => e = .returned (.bool true) ∧ Ext w w' := by
  go_enter Tryd.func11, Tryd.ntmps11
  go_upto_region 6 with fail
  obtain ⟨V, hV0⟩ : ∃ V, V = w.heap.size := ⟨_, rfl⟩
  rw [← hV0]
  obtain ⟨W1, h1⟩ : ∃ W, W = w.alloc (.cells #[.int .u8 1, .int .u8 2] 5) := ⟨_, rfl⟩
  rw [← h1]
  obtain ⟨W2, h2⟩ : ∃ W, W = W1.alloc (.cells #[.int .i64 3, .string ⟨#[107]⟩, .slice (some ⟨V, 0, none⟩) 2 2, .int .u64 3, .int .u64 20, .int .u64 12] 28) := ⟨_, rfl⟩
  rw [← h2]
  obtain ⟨W3, h3⟩ : ∃ W, W = W2.alloc (.cells #[.int .i64 1, .string ⟨#[107]⟩, .slice none 0 0, .int .u64 1, .int .u64 20, .int .u64 20] 28) := ⟨_, rfl⟩
  rw [← h3]
  obtain ⟨W4, h4⟩ : ∃ W, W = W3.alloc (.cells #[.int .i64 5, .string ⟨#[107]⟩, .slice none 0 0, .int .u64 7, .int .u64 18446744073709551615, .int .u64 0] 28) := ⟨_, rfl⟩
  rw [← h4]
  obtain ⟨WK, h5⟩ : ∃ W, W = W4.alloc (.cells #[.int .i64 1, .string ⟨#[107]⟩, .slice none 0 0, .int .u64 1, .int .u64 20, .int .u64 19] 28) := ⟨_, rfl⟩
  rw [← h5]
  have z1 : W1.heap.size = V + 1 := by rw [h1, hV0]; simp
  have z2 : W2.heap.size = V + 1 + 1 := by rw [h2]; simp [z1]
  have z3 : W3.heap.size = V + 1 + 1 + 1 := by rw [h3]; simp [z2]
  have z4 : W4.heap.size = V + 1 + 1 + 1 + 1 := by rw [h4]; simp [z3]
  have x1 : Ext w W1 := by rw [h1]; exact Ext.alloc (Below.refl _ _) _
  have x2 : Ext W1 W2 := by rw [h2]; exact Ext.alloc (Below.refl _ _) _
  have x3 : Ext W2 W3 := by rw [h3]; exact Ext.alloc (Below.refl _ _) _
  have x4 : Ext W3 W4 := by rw [h4]; exact Ext.alloc (Below.refl _ _) _
  have x5 : Ext W4 WK := by rw [h5]; exact Ext.alloc (Below.refl _ _) _
  have n0 : W1.heap[V]? = some (.cells #[.int .u8 1, .int .u8 2] 5 (0, 0)) := by rw [h1, hV0]; exact newblk w _
  have n1 : W2.heap[V + 1]? = some (.cells #[.int .i64 3, .string ⟨#[107]⟩, .slice (some ⟨V, 0, none⟩) 2 2, .int .u64 3, .int .u64 20, .int .u64 12] 28 (0, 0)) := by rw [h2, ← z1]; exact newblk W1 _
  have n2 : W3.heap[V + 1 + 1]? = some (.cells #[.int .i64 1, .string ⟨#[107]⟩, .slice none 0 0, .int .u64 1, .int .u64 20, .int .u64 20] 28 (0, 0)) := by rw [h3, ← z2]; exact newblk W2 _
  have n3 : W4.heap[V + 1 + 1 + 1]? = some (.cells #[.int .i64 5, .string ⟨#[107]⟩, .slice none 0 0, .int .u64 7, .int .u64 18446744073709551615, .int .u64 0] 28 (0, 0)) := by rw [h4, ← z3]; exact newblk W3 _
  have hE : WK.heap[V + 1 + 1 + 1 + 1]? = some (.cells #[.int .i64 1, .string ⟨#[107]⟩, .slice none 0 0, .int .u64 1, .int .u64 20, .int .u64 19] 28 (0, 0)) := by rw [h5, ← z4]; exact newblk W4 _
  have hC := Ext.blk x5 n3
  have hB := Ext.blk (Ext.trans' x4 x5) n2
  have hA := Ext.blk (Ext.trans' x3 (Ext.trans' x4 x5)) n1
  have hVb := Ext.blk (Ext.trans' x2 (Ext.trans' x3 (Ext.trans' x4 x5))) n0
  have hxw : Ext w WK := Ext.trans' x1 (Ext.trans' x2 (Ext.trans' x3 (Ext.trans' x4 x5)))
  have hV : By WK (.slice (some ⟨V, 0, none⟩) 2 2) [1, 2] := ⟨_, 2, rfl, by decide, trivial, trivial, fun _ => ⟨V, 0, rfl, fun i hi => by
    rw [Lib.cell_of_heap hVb]
    match i, hi with
    | 0, _ => rfl
    | 1, _ => rfl⟩⟩
  have hEnv := hw.ext hxw
  clear h1 h2 h3 h4 h5 z1 z2 z3 z4 x1 x2 x3 x4 x5 n0 n1 n2 n3 hVb hV0
  have wA : Box (∀ w', Ext WK w' → Calls Tryd.prog 15 #[.agg #[.int .i64 3, .string ⟨#[107]⟩, .slice (some ⟨V, 0, none⟩) 2 2, .int .u64 3, .int .u64 20, .int .u64 12], .string ⟨#[49, 50, 32, 114, 101, 112, 108, 97, 99, 101, 100, 32, 51, 32, 50, 48, 32, 54, 98, 32, 48, 49, 48, 50]⟩, .int .i64 0] w' fun e w'' => e = .returned (.bool true) ∧ Ext w' w'') := ⟨fun w' h => writes_ok 3 ⟨#[107]⟩ (some ⟨V, 0, none⟩) [1, 2] 2 3 20 12 ⟨#[49, 50, 32, 114, 101, 112, 108, 97, 99, 101, 100, 32, 51, 32, 50, 48, 32, 54, 98, 32, 48, 49, 48, 50]⟩ w' (by decide) (by decide) (by decide) (by decide) (by decide) (by decide) (hV.ext h) (hEnv.ext h) text_A.symm⟩
  have wB : Box (∀ w', Ext WK w' → Calls Tryd.prog 15 #[.agg #[.int .i64 1, .string ⟨#[107]⟩, .slice none 0 0, .int .u64 1, .int .u64 20, .int .u64 20], .string ⟨#[50, 48, 32, 101, 120, 112, 105, 114, 101, 100, 32, 49, 32, 50, 48, 32, 54, 98, 32, 45]⟩, .int .i64 0] w' fun e w'' => e = .returned (.bool true) ∧ Ext w' w'') := ⟨fun w' h => writes_ok 1 ⟨#[107]⟩ none [] 0 1 20 20 ⟨#[50, 48, 32, 101, 120, 112, 105, 114, 101, 100, 32, 49, 32, 50, 48, 32, 54, 98, 32, 45]⟩ w' (by decide) (by decide) (by decide) (by decide) (by decide) (by decide) (By.nil w') (hEnv.ext h) text_B.symm⟩
  have wE : Box (∀ w', Ext WK w' → Calls Tryd.prog 15 #[.agg #[.int .i64 1, .string ⟨#[107]⟩, .slice none 0 0, .int .u64 1, .int .u64 20, .int .u64 19], .string ⟨#[]⟩, .int .i64 2] w' fun e w'' => e = .returned (.bool true) ∧ Ext w' w'') := ⟨fun w' h => writes_bad 1 ⟨#[107]⟩ none 0 0 1 20 19 w' (by decide) (by decide) (by decide) (by decide) (by decide) (by decide)⟩
  have pC : Box (∀ w', Ext WK w' → Calls Tryd.prog 13 #[.string ⟨#[48, 32, 99, 108, 101, 97, 114, 101, 100, 32, 55, 32, 110, 101, 118, 101, 114, 32, 54, 98, 32, 45]⟩, .agg #[.int .i64 5, .string ⟨#[107]⟩, .slice none 0 0, .int .u64 7, .int .u64 18446744073709551615, .int .u64 0], .int .i64 0] w' fun e w'' => e = .returned (.bool true) ∧ Ext w' w'') := ⟨fun w' h => parses_some ⟨#[48, 32, 99, 108, 101, 97, 114, 101, 100, 32, 55, 32, 110, 101, 118, 101, 114, 32, 54, 98, 32, 45]⟩ w' (by decide) (hEnv.ext h) evC' parse_C none 0 (By.nil w')⟩
  have p7 : Box (∀ w', Ext WK w' → Calls Tryd.prog 13 #[.string ⟨#[48, 32, 99, 108, 101, 97, 114, 101, 100, 32, 48, 55, 32, 110, 101, 118, 101, 114, 32, 54, 98, 32, 45]⟩, .agg #[.int .i64 0, .string ⟨#[]⟩, .slice none 0 0, .int .u64 0, .int .u64 0, .int .u64 0], .int .i64 6] w' fun e w'' => e = .returned (.bool true) ∧ Ext w' w'') := ⟨fun w' h => parses_none ⟨#[48, 32, 99, 108, 101, 97, 114, 101, 100, 32, 48, 55, 32, 110, 101, 118, 101, 114, 32, 54, 98, 32, 45]⟩ w' (by decide) (hEnv.ext h) parse_07⟩
  have p5 : Box (∀ w', Ext WK w' → Calls Tryd.prog 13 #[.string ⟨#[53, 32, 101, 118, 105, 99, 116, 101, 100, 32, 49, 32, 53, 32, 54, 98, 32, 45]⟩, .agg #[.int .i64 0, .string ⟨#[]⟩, .slice none 0 0, .int .u64 0, .int .u64 0, .int .u64 0], .int .i64 6] w' fun e w'' => e = .returned (.bool true) ∧ Ext w' w'') := ⟨fun w' h => parses_none ⟨#[53, 32, 101, 118, 105, 99, 116, 101, 100, 32, 49, 32, 53, 32, 54, 98, 32, 45]⟩ w' (by decide) (hEnv.ext h) parse_55⟩
  have cN : Box (∀ w', Ext WK w' → Calls Tryd.prog 16 #[] w' fun e w'' => e = .returned (.pointer (some ⟨w'.heap.size, 0, none⟩)) ∧ WK.heap.size ≤ w'.heap.size ∧ Strm w'' w'.heap.size [] zz 0 ∧ Ext WK w'') := ⟨fun w' h => (new_any w').mono fun e w'' ⟨h1, h2, h3⟩ => ⟨h1, h.size, h2, Ext.trans' h h3⟩⟩
  have aA : Box (∀ w' S, Ext WK w' → WK.heap.size ≤ S → Strm w' S [] zz 0 → Calls Tryd.prog 17 #[.pointer (some ⟨S, 0, none⟩), .agg #[.int .i64 3, .string ⟨#[107]⟩, .slice (some ⟨V, 0, none⟩) 2 2, .int .u64 3, .int .u64 20, .int .u64 12]] w' fun e w'' => ∃ x u, e = .returned (.int .i64 0) ∧ Strm w'' S [⟨x, u, evA⟩] (bump zz 3) 1 ∧ Ext WK w'') := ⟨fun w' S h hS hs => (Add_ok S [] zz 0 evA (some ⟨V, 0, none⟩) 2 w' hs (by decide) (fun k => by show (0 : Nat) ≤ _; omega) fine_A in_A (hV.ext h)).mono fun e w'' ⟨x, u, h1, h2, h3, h4⟩ => ⟨x, u, h1, h2, h4.ext _ h (Own.ge hs hS)⟩⟩
  have aC : Box (∀ w' S x u, Ext WK w' → WK.heap.size ≤ S → Strm w' S [⟨x, u, evA⟩] (bump zz 3) 1 → Calls Tryd.prog 17 #[.pointer (some ⟨S, 0, none⟩), .agg #[.int .i64 5, .string ⟨#[107]⟩, .slice none 0 0, .int .u64 7, .int .u64 18446744073709551615, .int .u64 0]] w' fun e w'' => ∃ x2 u2, e = .returned (.int .i64 0) ∧ Strm w'' S [⟨x, u, evA⟩, ⟨x2, u2, evC'⟩] (bump (bump zz 3) 5) 2 ∧ Ext WK w'') := ⟨fun w' S x u h hS hs => (Add_ok S [⟨x, u, evA⟩] (bump zz 3) 1 evC' none 0 w' hs (by decide) (fun k => by unfold bump zz; split <;> omega) fine_C in_C (By.nil w')).mono fun e w'' ⟨x2, u2, h1, h2, h3, h4⟩ => ⟨x2, u2, h1, h2, h4.ext _ h (Own.ge hs hS)⟩⟩
  have t1 : Box (∀ w' S x u x2 u2, Ext WK w' → WK.heap.size ≤ S → Strm w' S [⟨x, u, evA⟩, ⟨x2, u2, evC'⟩] (bump (bump zz 3) 5) 2 → Calls Tryd.prog 32 #[.pointer (some ⟨S, 0, none⟩), .int .i64 1, .slice (some ⟨w'.heap.size, 0, none⟩) 1 1, .int .i64 0] (w'.alloc (.cells #[.int .i64 3, .string ⟨#[107]⟩, .slice (some ⟨V, 0, none⟩) 2 2, .int .u64 3, .int .u64 20, .int .u64 12] 28)) fun e w'' => e = .returned (.bool true) ∧ Strm w'' S [⟨x2, u2, evC'⟩] (bump (bump zz 3) 5) 1 ∧ Ext WK w'') := ⟨fun w' S x u x2 u2 h hS hs => (takes_any S [⟨x, u, evA⟩, ⟨x2, u2, evC'⟩] [⟨0, .slice (some ⟨V, 0, none⟩) 2 2, evA⟩] (bump (bump zz 3) 5) 1 (.slice (some ⟨w'.heap.size, 0, none⟩) 1 1) (w'.alloc (.cells #[.int .i64 3, .string ⟨#[107]⟩, .slice (some ⟨V, 0, none⟩) 2 2, .int .u64 3, .int .u64 20, .int .u64 12] 28)) (hs.ext (Ext.alloc (Below.refl _ _) _)) (by simp) (by decide) (fun w2 hm => want_one w' w2 S (.slice (some ⟨V, 0, none⟩) 2 2) evA ⟨_, _, rfl⟩ (hV.ext h) (hs.noB S (Or.inl rfl)) hm) rfl).mono fun e w'' ⟨h1, h2, h4⟩ => ⟨h1, h2, h4.ext _ (Ext.alloc h _) (fun x hx => by subst hx; exact hS)⟩⟩
  have t5 : Box (∀ w' S x2 u2, Ext WK w' → WK.heap.size ≤ S → Strm w' S [⟨x2, u2, evC'⟩] (bump (bump zz 3) 5) 1 → Calls Tryd.prog 32 #[.pointer (some ⟨S, 0, none⟩), .int .i64 5, .slice (some ⟨w'.heap.size, 0, none⟩) 1 1, .int .i64 0] (w'.alloc (.cells #[.int .i64 5, .string ⟨#[107]⟩, .slice none 0 0, .int .u64 7, .int .u64 18446744073709551615, .int .u64 0] 28)) fun e w'' => e = .returned (.bool true) ∧ Strm w'' S [] (bump (bump zz 3) 5) 0 ∧ Ext WK w'') := ⟨fun w' S x2 u2 h hS hs => (takes_any S [⟨x2, u2, evC'⟩] [⟨0, .slice none 0 0, evC'⟩] (bump (bump zz 3) 5) 5 (.slice (some ⟨w'.heap.size, 0, none⟩) 1 1) (w'.alloc (.cells #[.int .i64 5, .string ⟨#[107]⟩, .slice none 0 0, .int .u64 7, .int .u64 18446744073709551615, .int .u64 0] 28)) (hs.ext (Ext.alloc (Below.refl _ _) _)) (by simp) (by decide) (fun w2 hm => want_one w' w2 S (.slice none 0 0) evC' ⟨_, _, rfl⟩ (By.nil w') (hs.noB S (Or.inl rfl)) hm) rfl).mono fun e w'' ⟨h1, h2, h4⟩ => ⟨h1, h2, h4.ext _ (Ext.alloc h _) (fun x hx => by subst hx; exact hS)⟩⟩
  have t0 : Box (∀ w' S, Ext WK w' → WK.heap.size ≤ S → Strm w' S [] (bump (bump zz 3) 5) 0 → Calls Tryd.prog 32 #[.pointer (some ⟨S, 0, none⟩), .int .i64 0, .slice none 0 0, .int .i64 0] w' fun e w'' => e = .returned (.bool true) ∧ Ext WK w'') := ⟨fun w' S h hS hs => (takes_any S [] [] (bump (bump zz 3) 5) 0 (.slice none 0 0) w' hs (by decide) (by decide) (fun w2 hm => Es.nil w2) rfl).mono fun e w'' ⟨h1, h2, h4⟩ => ⟨h1, h4.ext _ h (fun x hx => by subst hx; exact hS)⟩⟩
  have cL : Box (∀ w' S x2 u2, Strm w' S [⟨x2, u2, evC'⟩] (bump (bump zz 3) 5) 1 → Calls Tryd.prog 20 #[.pointer (some ⟨S, 0, none⟩)] w' fun e w'' => e = .returned (.int .i64 1) ∧ w' = w'') := ⟨fun w' S x2 u2 hs => len_any S _ _ 1 w' hs⟩
  have cC : Box (∀ w' S x2 u2, Strm w' S [⟨x2, u2, evC'⟩] (bump (bump zz 3) 5) 1 → Calls Tryd.prog 21 #[.pointer (some ⟨S, 0, none⟩), .int .i64 3] w' fun e w'' => e = .returned (.int .u64 1) ∧ w' = w'') := ⟨fun w' S x2 u2 hs => count_any S _ _ 1 3 (by decide) (by decide) w' hs⟩
  have cR : Box (∀ w', Ext WK w' → Calls Tryd.prog 31 #[.string ⟨#[48, 32, 99, 108, 101, 97, 114, 101, 100, 32, 55, 32, 110, 101, 118, 101, 114, 32, 54, 98, 32, 45]⟩] w' fun e w'' => e = .returned (.tuple #[.slice none 0 0, .int .i64 0, .int .i64 6]) ∧ Ext WK w'') := ⟨fun w' h => (read_short ⟨#[48, 32, 99, 108, 101, 97, 114, 101, 100, 32, 55, 32, 110, 101, 118, 101, 114, 32, 54, 98, 32, 45]⟩ w' (by decide) (by decide) (by decide) evC' parse_C (hEnv.ext h)).mono fun e w'' ⟨h1, h2⟩ => ⟨h1, Ext.trans' h h2⟩⟩
  have w0 : Box (∀ w', Ext WK w' → Calls Tryd.prog 25 #[.int .i64 0] w' fun e w'' => e = .returned (.string ⟨#[]⟩) ∧ w' = w'') := ⟨fun w' h => word_any 0 w' (hEnv.ext h)⟩
  have w2 : Box (∀ w', Ext WK w' → Calls Tryd.prog 25 #[.int .i64 2] w' fun e w'' => e = .returned (.string ⟨#[101, 118, 105, 99, 116, 101, 100]⟩) ∧ w' = w'') := ⟨fun w' h => word_any 2 w' (hEnv.ext h)⟩
  have hk : Ext WK WK := Below.refl _ _
  obtain ⟨a0, a1, a2, a3, a4, a5⟩ := blk6 hA
  obtain ⟨b0, b1, b2, b3, b4, b5⟩ := blk6 hB
  obtain ⟨c0, c1, c2, c3, c4, c5⟩ := blk6 hC
  obtain ⟨e0, e1, e2, e3, e4, e5⟩ := blk6 hE
  have HXW := Box.mk hxw
  clear hw hEnv hV hxw
  go_wp2_with (first
    | (go_at_call 15; (with_reducible refine (wA.out _ hk).mono ?_); rintro e w1 ⟨rfl, hb⟩; have hk := Ext.trans' hk hb; (try clear a0 a1 a2 a3 a4 a5 b0 b1 b2 b3 b4 b5 c0 c1 c2 c3 c4 c5 e0 e1 e2 e3 e4 e5); obtain ⟨a0, a1, a2, a3, a4, a5⟩ := blk6 (Ext.blk hk hA); obtain ⟨b0, b1, b2, b3, b4, b5⟩ := blk6 (Ext.blk hk hB); obtain ⟨c0, c1, c2, c3, c4, c5⟩ := blk6 (Ext.blk hk hC); obtain ⟨e0, e1, e2, e3, e4, e5⟩ := blk6 (Ext.blk hk hE))
    | (go_at_call 15; (with_reducible refine (wB.out _ hk).mono ?_); rintro e w1 ⟨rfl, hb⟩; have hk := Ext.trans' hk hb; (try clear a0 a1 a2 a3 a4 a5 b0 b1 b2 b3 b4 b5 c0 c1 c2 c3 c4 c5 e0 e1 e2 e3 e4 e5); obtain ⟨a0, a1, a2, a3, a4, a5⟩ := blk6 (Ext.blk hk hA); obtain ⟨b0, b1, b2, b3, b4, b5⟩ := blk6 (Ext.blk hk hB); obtain ⟨c0, c1, c2, c3, c4, c5⟩ := blk6 (Ext.blk hk hC); obtain ⟨e0, e1, e2, e3, e4, e5⟩ := blk6 (Ext.blk hk hE))
    | (go_at_call 15; (with_reducible refine (wE.out _ hk).mono ?_); rintro e w1 ⟨rfl, hb⟩; have hk := Ext.trans' hk hb; (try clear a0 a1 a2 a3 a4 a5 b0 b1 b2 b3 b4 b5 c0 c1 c2 c3 c4 c5 e0 e1 e2 e3 e4 e5); obtain ⟨a0, a1, a2, a3, a4, a5⟩ := blk6 (Ext.blk hk hA); obtain ⟨b0, b1, b2, b3, b4, b5⟩ := blk6 (Ext.blk hk hB); obtain ⟨c0, c1, c2, c3, c4, c5⟩ := blk6 (Ext.blk hk hC); obtain ⟨e0, e1, e2, e3, e4, e5⟩ := blk6 (Ext.blk hk hE))
    | (go_at_call 13; (with_reducible refine (pC.out _ hk).mono ?_); rintro e w1 ⟨rfl, hb⟩; have hk := Ext.trans' hk hb; (try clear a0 a1 a2 a3 a4 a5 b0 b1 b2 b3 b4 b5 c0 c1 c2 c3 c4 c5 e0 e1 e2 e3 e4 e5); obtain ⟨a0, a1, a2, a3, a4, a5⟩ := blk6 (Ext.blk hk hA); obtain ⟨b0, b1, b2, b3, b4, b5⟩ := blk6 (Ext.blk hk hB); obtain ⟨c0, c1, c2, c3, c4, c5⟩ := blk6 (Ext.blk hk hC); obtain ⟨e0, e1, e2, e3, e4, e5⟩ := blk6 (Ext.blk hk hE))
    | (go_at_call 13; (with_reducible refine (p7.out _ hk).mono ?_); rintro e w1 ⟨rfl, hb⟩; have hk := Ext.trans' hk hb; (try clear a0 a1 a2 a3 a4 a5 b0 b1 b2 b3 b4 b5 c0 c1 c2 c3 c4 c5 e0 e1 e2 e3 e4 e5); obtain ⟨a0, a1, a2, a3, a4, a5⟩ := blk6 (Ext.blk hk hA); obtain ⟨b0, b1, b2, b3, b4, b5⟩ := blk6 (Ext.blk hk hB); obtain ⟨c0, c1, c2, c3, c4, c5⟩ := blk6 (Ext.blk hk hC); obtain ⟨e0, e1, e2, e3, e4, e5⟩ := blk6 (Ext.blk hk hE))
    | (go_at_call 13; (with_reducible refine (p5.out _ hk).mono ?_); rintro e w1 ⟨rfl, hb⟩; have hk := Ext.trans' hk hb; (try clear a0 a1 a2 a3 a4 a5 b0 b1 b2 b3 b4 b5 c0 c1 c2 c3 c4 c5 e0 e1 e2 e3 e4 e5); obtain ⟨a0, a1, a2, a3, a4, a5⟩ := blk6 (Ext.blk hk hA); obtain ⟨b0, b1, b2, b3, b4, b5⟩ := blk6 (Ext.blk hk hB); obtain ⟨c0, c1, c2, c3, c4, c5⟩ := blk6 (Ext.blk hk hC); obtain ⟨e0, e1, e2, e3, e4, e5⟩ := blk6 (Ext.blk hk hE))
    | (go_at_call 16; (with_reducible refine (cN.out _ hk).mono ?_); rintro e w3 ⟨rfl, hSk, hS, hk⟩; (try clear a0 a1 a2 a3 a4 a5 b0 b1 b2 b3 b4 b5 c0 c1 c2 c3 c4 c5 e0 e1 e2 e3 e4 e5); obtain ⟨a0, a1, a2, a3, a4, a5⟩ := blk6 (Ext.blk hk hA); obtain ⟨b0, b1, b2, b3, b4, b5⟩ := blk6 (Ext.blk hk hB); obtain ⟨c0, c1, c2, c3, c4, c5⟩ := blk6 (Ext.blk hk hC); obtain ⟨e0, e1, e2, e3, e4, e5⟩ := blk6 (Ext.blk hk hE))
    | (go_at_call 17; (with_reducible refine (aA.out _ _ hk hSk hS).mono ?_); rintro e w1 ⟨x1, u1, rfl, hS, hk⟩; (try clear a0 a1 a2 a3 a4 a5 b0 b1 b2 b3 b4 b5 c0 c1 c2 c3 c4 c5 e0 e1 e2 e3 e4 e5); obtain ⟨a0, a1, a2, a3, a4, a5⟩ := blk6 (Ext.blk hk hA); obtain ⟨b0, b1, b2, b3, b4, b5⟩ := blk6 (Ext.blk hk hB); obtain ⟨c0, c1, c2, c3, c4, c5⟩ := blk6 (Ext.blk hk hC); obtain ⟨e0, e1, e2, e3, e4, e5⟩ := blk6 (Ext.blk hk hE))
    | (go_at_call 17; (with_reducible refine (aC.out _ _ _ _ hk hSk hS).mono ?_); rintro e w1 ⟨x2, u2, rfl, hS, hk⟩; (try clear a0 a1 a2 a3 a4 a5 b0 b1 b2 b3 b4 b5 c0 c1 c2 c3 c4 c5 e0 e1 e2 e3 e4 e5); obtain ⟨a0, a1, a2, a3, a4, a5⟩ := blk6 (Ext.blk hk hA); obtain ⟨b0, b1, b2, b3, b4, b5⟩ := blk6 (Ext.blk hk hB); obtain ⟨c0, c1, c2, c3, c4, c5⟩ := blk6 (Ext.blk hk hC); obtain ⟨e0, e1, e2, e3, e4, e5⟩ := blk6 (Ext.blk hk hE))
    | (go_at_call 32; (with_reducible refine (t1.out _ _ _ _ _ _ hk hSk hS).mono ?_); rintro e w1 ⟨rfl, hS, hk⟩; (try clear a0 a1 a2 a3 a4 a5 b0 b1 b2 b3 b4 b5 c0 c1 c2 c3 c4 c5 e0 e1 e2 e3 e4 e5); obtain ⟨a0, a1, a2, a3, a4, a5⟩ := blk6 (Ext.blk hk hA); obtain ⟨b0, b1, b2, b3, b4, b5⟩ := blk6 (Ext.blk hk hB); obtain ⟨c0, c1, c2, c3, c4, c5⟩ := blk6 (Ext.blk hk hC); obtain ⟨e0, e1, e2, e3, e4, e5⟩ := blk6 (Ext.blk hk hE))
    | (go_at_call 32; (with_reducible refine (t5.out _ _ _ _ hk hSk hS).mono ?_); rintro e w1 ⟨rfl, hS, hk⟩; (try clear a0 a1 a2 a3 a4 a5 b0 b1 b2 b3 b4 b5 c0 c1 c2 c3 c4 c5 e0 e1 e2 e3 e4 e5); obtain ⟨a0, a1, a2, a3, a4, a5⟩ := blk6 (Ext.blk hk hA); obtain ⟨b0, b1, b2, b3, b4, b5⟩ := blk6 (Ext.blk hk hB); obtain ⟨c0, c1, c2, c3, c4, c5⟩ := blk6 (Ext.blk hk hC); obtain ⟨e0, e1, e2, e3, e4, e5⟩ := blk6 (Ext.blk hk hE))
    | (go_at_call 32; (with_reducible refine (t0.out _ _ hk hSk hS).mono ?_); rintro e w1 ⟨rfl, hk⟩; (try clear a0 a1 a2 a3 a4 a5 b0 b1 b2 b3 b4 b5 c0 c1 c2 c3 c4 c5 e0 e1 e2 e3 e4 e5); obtain ⟨a0, a1, a2, a3, a4, a5⟩ := blk6 (Ext.blk hk hA); obtain ⟨b0, b1, b2, b3, b4, b5⟩ := blk6 (Ext.blk hk hB); obtain ⟨c0, c1, c2, c3, c4, c5⟩ := blk6 (Ext.blk hk hC); obtain ⟨e0, e1, e2, e3, e4, e5⟩ := blk6 (Ext.blk hk hE))
    | (go_at_call 20; (with_reducible refine (cL.out _ _ _ _ hS).mono ?_); rintro e w' ⟨rfl, rfl⟩)
    | (go_at_call 21; (with_reducible refine (cC.out _ _ _ _ hS).mono ?_); rintro e w' ⟨rfl, rfl⟩)
    | (go_at_call 31; (with_reducible refine (cR.out _ hk).mono ?_); rintro e w1 ⟨rfl, hk⟩)
    | (go_at_call 25; (with_reducible refine (w0.out _ hk).mono ?_); rintro e w' ⟨rfl, rfl⟩)
    | (go_at_call 25; (with_reducible refine (w2.out _ hk).mono ?_); rintro e w' ⟨rfl, rfl⟩))
  go_ret
  exact ⟨rfl, Ext.trans' HXW.out hk⟩
end Go.Proofs.YtapngkjgagapeaaDoor
