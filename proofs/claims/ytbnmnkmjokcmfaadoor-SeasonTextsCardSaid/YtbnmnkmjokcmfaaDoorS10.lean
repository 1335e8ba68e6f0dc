import Derived.Test.YtbnmnkmjokcmfaaDoorS9
import Derived.Test.YtbnmnkmjokcmfaaDoorS3
/- season: Parse. -/
namespace Go.Proofs.YtbnmnkmjokcmfaaDoor
open Go.RowKit
set_option maxHeartbeats 2000000 in
theorem la_one (s : ByteArray) (h1 : s.size = 1) (ha : ∀ c ∈ s.data.toList, c.toNat < 128) (w : World) :
    Calls Tryd.prog 38 #[.string s, .string ⟨#[43, 45]⟩] w fun e w' => e = .returned (.int .i64 (lastS s.data.toList)) ∧ Ext w w' := by
  obtain ⟨c, hc⟩ : ∃ c, s.data.toList = [c] := by
    have : s.data.toList.length = 1 := h1
    match s.data.toList, this with
    | [c], _ => exact ⟨c, rfl⟩
  have hs : s = ⟨#[c]⟩ := by apply ByteArray.ext; exact Array.ext' hc
  subst hs
  have hasc := ha c (by simp)
  have hb0 : (⟨#[c]⟩ : ByteArray)[0] = c := rfl
  have cI : Box (∀ (w : World), Calls Tryd.prog 52 #[.string ⟨#[43, 45]⟩, .int .i32 c.toNat] w fun e w' => e = .returned (.int .i64 (Lib.indexByte [43, 45] c)) ∧ w = w') := ⟨fun w => (Tryd.strings_IndexRune_ascii ⟨#[43, 45]⟩ c.toNat w (by omega) (by omega)).mono fun e w' ⟨h1, h3⟩ => ⟨by rw [h1]; simp, h3.symm⟩⟩
  have hci := idx_sign c
  have hl : lastS [c] = if c = 43 ∨ c = 45 then 0 else -1 := by unfold lastS; rw [if_neg (by decide)]
  rw [show (⟨#[c]⟩ : ByteArray).data.toList = [c] from rfl, hl]
  have d1 : decide ((128 : Int) ≤ (c.toNat : Int)) = false := decide_eq_false (by omega)
  have d2 : decide (128 ≤ c.toNat) = false := decide_eq_false (by omega)
  have q1 : IntKind.i32.wrap (c.toNat : Int) = (c.toNat : Int) := by
    have : (c.toNat : Int) < 128 := by omega
    simp [IntKind.wrap, IntKind.bits, IntKind.signed]; omega
  have q2 : wrap32 (c.toNat : Int) = (c.toNat : Int) := by unfold wrap32; omega
  obtain ⟨z, hz⟩ : ∃ z : Int, z = (if c = 43 ∨ c = 45 then 0 else -1) := ⟨_, rfl⟩
  rw [← hz]
  by_cases hs : c = 43 ∨ c = 45
  · have d3 : decide (0 ≤ Lib.indexByte [43, 45] c) = true := decide_eq_true (hci.2 hs)
    rw [if_pos hs] at hz
    subst hz
    clear hci hl hs
    generalize Lib.indexByte [43, 45] c = y at *
    go_enter Tryd.func38, Tryd.ntmps38
    go_wp2_with (first
      | (go_at_call 52; (with_reducible refine (cI.out _).mono ?_); rintro e w' ⟨rfl, rfl⟩))
    go_ret
    exact ⟨rfl, Below.refl _ _⟩
  · have d3 : decide (0 ≤ Lib.indexByte [43, 45] c) = false := decide_eq_false (fun h => hs (hci.1 h))
    rw [if_neg hs] at hz
    subst hz
    clear hci hl hs
    generalize Lib.indexByte [43, 45] c = y at *
    go_enter Tryd.func38, Tryd.ntmps38
    go_wp2_with (first
      | (go_at_call 52; (with_reducible refine (cI.out _).mono ?_); rintro e w' ⟨rfl, rfl⟩))
    go_ret
    exact ⟨rfl, Below.refl _ _⟩
theorem gz {w : World} {B : Nat} {T : TypeId} {x y : Value} (h : w.heap[B]? = some (.cells #[x, y] T (0, 0))) : (w.cell? ⟨B, 0, none⟩ = some x ∧ w.cell? ⟨B, 1, none⟩ = some y) ∧ w.frozen? ⟨B, 0, none⟩ = false ∧ w.frozen? ⟨B, 1, none⟩ = false :=
  ⟨⟨by rw [Lib.cell_of_heap h]; rfl, by rw [Lib.cell_of_heap h]; rfl⟩, Lib.frozen_of_heap h 0, Lib.frozen_of_heap h 1⟩
/-- what LastIndexAny finds, as Parse asks it -/
def La (s : ByteArray) (w : World) : Prop := ∀ w', Ext w w' → Calls Tryd.prog 38 #[.string s, .string ⟨#[43, 45]⟩] w' fun e w'' => e = .returned (.int .i64 (lastS s.data.toList)) ∧ Ext w' w''
set_option maxRecDepth 100000 in
set_option maxHeartbeats 2000000 in
theorem sparse_at (s : ByteArray) (w : World) (hla : La s w) (h : lastS s.data.toList < 1) :
    Calls Tryd.prog 11 #[.string s] w fun e w' => e = .returned (.tuple #[.agg #[.int .i64 0, .int .i64 0], .int .i64 6]) ∧ Ext w w' := by
  have hx : Ext w (w.alloc (.cells #[.int .i64 0, .int .i64 0] 23)) := Ext.alloc (Below.refl _ _) _
  have hB := newblk w (.cells #[.int .i64 0, .int .i64 0] 23)
  have c1 : Box (∀ w', Ext w w' → _) := ⟨hla⟩
  have d1 : decide (lastS s.data.toList < 1) = true := decide_eq_true h
  clear hla h
  generalize lastS s.data.toList = z at *
  go_enter Tryd.func11, Tryd.ntmps11
  go_wp2_with (first
    | (go_at_call 38; (with_reducible refine (c1.out _ hx).mono ?_); rintro e w1 ⟨rfl, hb⟩; have hx := Ext.trans' hx hb; have hB := Ext.blk hb hB; obtain ⟨⟨o0, o1⟩, f0, f1⟩ := gz hB))
  refine bodyPost_ret (v := .tuple #[.agg #[.int .i64 0, .int .i64 0], .int .i64 6]) ?_ rfl ⟨rfl, Below.setCell (Below.setCell hx (p := ⟨w.heap.size, 0, none⟩) (Nat.le_refl _) _) (p := ⟨w.heap.size, 1, none⟩) (Nat.le_refl _) _⟩
  simp [results, Tryd.results11, go_sem, o0, o1]
/-- the text that Text gives, or none -/
def txtG (a b : Int) : ByteArray := if gB a b = true then ⟨(textG a b).toArray⟩ else ⟨#[]⟩
theorem stext_any (a b : Int) (w : World) (ht : Tabs w) : Calls Tryd.prog 9 #[.agg #[.int .i64 a, .int .i64 b]] w fun e w' => ∃ x, e = .returned (.tuple #[.string (txtG a b), .int .i64 x]) ∧ Ext w w' := by
  unfold txtG
  cases h : gB a b with
  | true => rw [if_pos rfl]; exact (stext_ok a b w h ht).mono fun e w' ⟨h1, h2⟩ => ⟨_, h1, h2⟩
  | false => rw [if_neg (by decide)]; exact (stext_bad a b w h).mono fun e w' ⟨h1, h2⟩ => ⟨_, h1, h2⟩
def PPost (w : World) (s : ByteArray) (re im : Int) (e : Ending) (w' : World) : Prop :=
  e = .returned (if txtG re im = s then .tuple #[.agg #[.int .i64 re, .int .i64 im], .int .i64 0] else .tuple #[.agg #[.int .i64 0, .int .i64 0], .int .i64 6]) ∧ Ext w w'
set_option maxRecDepth 100000 in
set_option maxHeartbeats 4000000 in
theorem sparse_two (s : ByteArray) (w : World) (hw : EnvS w) (hs : s.size ≤ 1000) (hla : La s w) (p : Nat) (hp : lastS s.data.toList = p) (h1 : 1 ≤ p) (h2 : p + 1 ≤ s.size) (hsuf : Lib.hasSuffix s.data.toList [105] = true) (re im : Int)
    (hre : Lib.atoiAll (s.data.toList.take p) = .ok re) (him : Lib.atoiAll ((s.data.toList.drop p).take (s.size - 1 - p)) = .ok im) :
    Calls Tryd.prog 11 #[.string s] w (PPost w s re im) := by
  have hx : Ext w (w.alloc (.cells #[.int .i64 0, .int .i64 0] 23)) := Ext.alloc (Below.refl _ _) _
  have hB := newblk w (.cells #[.int .i64 0, .int .i64 0] 23)
  have c1 : Box (∀ w', Ext w w' → _) := ⟨hla⟩
  rw [hp] at c1
  have c2 : Box (∀ w, Calls Tryd.prog 39 #[.string s, .string ⟨#[105]⟩] w fun e w' => e = .returned (.bool true) ∧ w = w') := ⟨fun w => (Tryd.strings_HasSuffix s ⟨#[105]⟩ w (by omega)).mono fun e w' ⟨h1, h3⟩ => ⟨by rw [h1, ← hsuf], h3.symm⟩⟩
  have cA : Box _ := ⟨fun w => gatoi_ok (s.extract 0 p) re (by rw [ByteArray.size_extract]; omega) (by rw [show (s.extract 0 p).data.toList = s.data.toList.take p by simp]; exact hre) w⟩
  have cB : Box _ := ⟨fun w => gatoi_ok (s.extract p (s.size - 1)) im (by rw [ByteArray.size_extract]; omega) (by rw [show (s.extract p (s.size - 1)).data.toList = (s.data.toList.drop p).take (s.size - 1 - p) by simp [List.extract_eq_take_drop]]; exact him) w⟩
  have cT : Box (∀ w', Ext w w' → _) := ⟨fun w' hx => stext_any re im w' (hw.tabs.ext hx)⟩
  have d1 : decide ((p : Int) < 1) = false := decide_eq_false (by omega)
  have q1 : IntKind.i64.wrap ((s.size : Int) - 1) = ((s.size - 1 : Nat) : Int) := by rw [IntKind.wrap_i64]; omega
  have n1 : (0 : Int) ≤ (p : Int) := by omega
  have n2 : (p : Int) ≤ (s.size : Int) := by omega
  have n3 : (p : Int) ≤ ((s.size - 1 : Nat) : Int) := by omega
  have n4 : ((s.size - 1 : Nat) : Int) ≤ (s.size : Int) := by omega
  obtain ⟨Post, hPost⟩ : ∃ P, P = PPost w s re im := ⟨_, rfl⟩
  rw [← hPost]
  have HP := Box.mk hPost
  have key : (((txtG re im).toList == s.toList) = true ∧ ((txtG re im).toList != s.toList) = false ∧ Box (txtG re im = s)) ∨ (((txtG re im).toList == s.toList) = false ∧ ((txtG re im).toList != s.toList) = true ∧ Box (¬ txtG re im = s)) := by
    by_cases e : txtG re im = s
    · exact Or.inl ⟨by rw [e]; simp, by rw [e]; simp, ⟨e⟩⟩
    · have h9 : (txtG re im).toList ≠ s.toList := fun h => e (by
        rw [Lib.toList_data, Lib.toList_data] at h
        apply ByteArray.ext; exact Array.ext' h)
      exact Or.inr ⟨by rw [beq_eq_false_iff_ne]; exact h9, by rw [bne_iff_ne]; exact h9, ⟨e⟩⟩
  clear hla hp hre him hsuf hPost hw
  generalize htx : txtG re im = tx at *
  have HTX := Box.mk htx
  clear htx
  rcases key with ⟨e1, e2, e3⟩ | ⟨e1, e2, e3⟩
  all_goals
    go_enter Tryd.func11, Tryd.ntmps11
    go_wp2_with (first
      | (go_at_call 38; (with_reducible refine (c1.out _ hx).mono ?_); rintro e w1 ⟨rfl, hb⟩; have hx := Ext.trans' hx hb; have hB := Ext.blk hb hB)
      | (go_at_call 39; (with_reducible refine (c2.out _).mono ?_); rintro e w' ⟨rfl, rfl⟩)
      | (go_at_call 40; (with_reducible refine (cA.out _).mono ?_); rintro e w1 ⟨rfl, hb⟩; have hx := Ext.trans' hx hb; have hB := Ext.blk hb hB)
      | (go_at_call 40; (with_reducible refine (cB.out _).mono ?_); rintro e w4 ⟨rfl, hb⟩; have hx := Ext.alloc (Ext.trans' hx hb) (.cells #[.int .i64 re, .int .i64 im] 23); have hB := Ext.blk (Ext.alloc (Below.refl _ _) (.cells #[.int .i64 re, .int .i64 im] 23)) (Ext.blk hb hB); have hG := newblk w4 (.cells #[.int .i64 re, .int .i64 im] 23); obtain ⟨⟨y0, y1⟩, _⟩ := gz hG)
      | (go_at_call 9; (with_reducible refine (cT.out _ hx).mono ?_); rintro e w1 ⟨er, rfl, hb⟩; have hx := Ext.trans' hx hb; have hB := Ext.blk hb hB; have hG := Ext.blk hb hG; (try clear y0 y1); obtain ⟨⟨y0, y1⟩, _⟩ := gz hG; obtain ⟨⟨o0, o1⟩, f0, f1⟩ := gz hB))
  · refine bodyPost_ret (v := .tuple #[.agg #[.int .i64 re, .int .i64 im], .int .i64 0]) ?_ rfl ?_
    · simp [results, Tryd.results11, go_sem, o0, o1]
    · rw [HP.out]
      unfold PPost
      rw [HTX.out, if_pos e3.out]
      exact ⟨rfl, Below.setCell (Below.setCell hx (p := ⟨w.heap.size, 0, none⟩) (Nat.le_refl _) _) (p := ⟨w.heap.size, 1, none⟩) (Nat.le_refl _) _⟩
  · refine bodyPost_ret (v := .tuple #[.agg #[.int .i64 0, .int .i64 0], .int .i64 6]) ?_ rfl ?_
    · simp [results, Tryd.results11, go_sem, o0, o1]
    · rw [HP.out]
      unfold PPost
      rw [HTX.out, if_neg e3.out]
      exact ⟨rfl, Below.setCell (Below.setCell hx (p := ⟨w.heap.size, 0, none⟩) (Nat.le_refl _) _) (p := ⟨w.heap.size, 1, none⟩) (Nat.le_refl _) _⟩
end Go.Proofs.YtbnmnkmjokcmfaaDoor
