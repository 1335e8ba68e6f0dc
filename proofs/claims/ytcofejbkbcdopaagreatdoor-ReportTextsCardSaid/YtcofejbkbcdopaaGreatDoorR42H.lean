import Derived.Test.YtcofejbkbcdopaaGreatDoorR41
import Derived.Test.YtcofejbkbcdopaaGreatDoorR16
import Derived.BigRegion
import Derived.Deep.CutBlock
/- Helpers of the walks of ReportTexts and ReportHolds; ReportTexts where the string is too long. -/
namespace Go.Proofs.YtcofejbkbcdopaaGreatDoor
open Go.RowKit
theorem infoI : (Tryz.prog.info? 3).map (fun i => (i.zero, i.size, i.bytes)) = some (some (.int .i64 0), 1, 8) := by kernel_rfl
def vI (n : Nat) : Value := .int .i64 (n : Nat)
theorem get_getDz (s : ByteArray) (j : Nat) (h : j < s.size) : s[j]'h = s.data.toList.getD j 0 := by
  have h2 : j < s.data.toList.length := h
  rw [List.getD_eq_getElem?_getD, List.getElem?_eq_getElem h2]
  rfl
theorem take_getD (l : List UInt8) (k : Nat) (hk : k < l.length) : l.take (k + 1) = l.take k ++ [l.getD k 0] := by
  rw [List.getD_eq_getElem?_getD, List.getElem?_eq_getElem hk, List.take_succ_eq_append_getElem hk]
  rfl
theorem z64_ten {n d : Nat} (hn : n < 576460752303423488) (hd : d ≤ 9) : IntKind.i64.wrap (10 * (n : Int) + (d : Int)) = ((10 * n + d : Nat) : Int) := by rw [IntKind.wrap_i64]; omega
theorem z64_mul {n : Nat} (hn : n < 576460752303423488) : IntKind.i64.wrap (10 * (n : Int)) = 10 * (n : Int) := by rw [IntKind.wrap_i64]; omega
theorem zw64_mul {n : Nat} (hn : n < 576460752303423488) : wrap64 (10 * (n : Int)) = 10 * (n : Int) := by unfold wrap64; omega
theorem zw64_ten {n d : Nat} (hn : n < 576460752303423488) (hd : d ≤ 9) : wrap64 (10 * (n : Int) + (d : Int)) = ((10 * n + d : Nat) : Int) := by unfold wrap64; omega
theorem zw64_small {p : Nat} (h : p ≤ 1000) : wrap64 (p : Int) = (p : Int) := by unfold wrap64; omega
theorem z64_small {p : Nat} (h : p ≤ 1000) : IntKind.i64.wrap (p : Int) = (p : Int) := by rw [IntKind.wrap_i64]; omega
theorem z64_one {p : Nat} (h : p ≤ 1000) : IntKind.i64.wrap ((p : Int) + 1) = (p : Int) + 1 := by rw [IntKind.wrap_i64]; omega
theorem set_last (t : List Nat) (a x : Nat) (k : Nat) (h : t.length = k) : ((t ++ [a]).map vI).set k (vI x) = (t ++ [x]).map vI := by
  subst h
  simp [List.set_append]
theorem get_last (t : List Nat) (a : Nat) (k : Nat) (h : t.length = k) : ((t ++ [a]).map vI)[k]? = some (vI a) := by
  subst h
  simp
theorem snoc_of (l : List Nat) (k : Nat) (h : l.length = k + 1) : ∃ t a, l = t ++ [a] ∧ t.length = k := by
  refine ⟨l.dropLast, l.getLast (by intro e; rw [e] at h; simp at h), (List.dropLast_concat_getLast _).symm, ?_⟩
  rw [List.length_dropLast]; omega
theorem eqRL (f g : Nat → Int) (h : ∀ i, i < 12 → f i = g i) (w : World) : (Op.equalIn 10000 24 (.agg #[.int .i64 (f 0), .int .i64 (f 1), .int .i64 (f 2), .int .i64 (f 3), .int .i64 (f 4), .int .i64 (f 5), .int .i64 (f 6), .int .i64 (f 7), .int .i64 (f 8), .int .i64 (f 9), .int .i64 (f 10), .int .i64 (f 11)]) (.agg #[.int .i64 (g 0), .int .i64 (g 1), .int .i64 (g 2), .int .i64 (g 3), .int .i64 (g 4), .int .i64 (g 5), .int .i64 (g 6), .int .i64 (g 7), .int .i64 (g 8), .int .i64 (g 9), .int .i64 (g 10), .int .i64 (g 11)])).run Tryz.prog w = .ok true w := by
  have h1 := eqRC f g w
  rw [(eqB_iff f g).2 h] at h1
  exact h1
theorem eqZS (f : Nat → Int) (h : ∀ i, i < 12 → f i = 0) (w : World) : (Op.equalIn 10000 24 (.agg #[.int .i64 (f 0), .int .i64 (f 1), .int .i64 (f 2), .int .i64 (f 3), .int .i64 (f 4), .int .i64 (f 5), .int .i64 (f 6), .int .i64 (f 7), .int .i64 (f 8), .int .i64 (f 9), .int .i64 (f 10), .int .i64 (f 11)]) (.agg #[.int .i64 0, .int .i64 0, .int .i64 0, .int .i64 0, .int .i64 0, .int .i64 0, .int .i64 0, .int .i64 0, .int .i64 0, .int .i64 0, .int .i64 0, .int .i64 0])).run Tryz.prog w = .ok true w := eqRL f (fun _ => 0) h w
theorem range_mk (w : World) (f : Nat → Int) : RcAt w.heap.size f (w.alloc (.cells #[.int .i64 (f 0), .int .i64 (f 1), .int .i64 (f 2), .int .i64 (f 3), .int .i64 (f 4), .int .i64 (f 5), .int .i64 (f 6), .int .i64 (f 7), .int .i64 (f 8), .int .i64 (f 9), .int .i64 (f 10), .int .i64 (f 11)] 24)) := newblk w _
theorem okR_zero (q : Nat → Int) (h : ∀ i, i < 12 → q i = 0) : okR q := fun i hi => by rw [h i hi]; exact Int.le_refl _
theorem st12_far {w : World} {A B j : Nat} {v : Value} (f : Nat → Int) (h : A ≠ B) (hc : w.cell? ⟨A, j, none⟩ = some v) : ((((((((((((w.setCell ⟨B, 0, none⟩ (.int .i64 (f 0))).setCell ⟨B, 1, none⟩ (.int .i64 (f 1))).setCell ⟨B, 2, none⟩ (.int .i64 (f 2))).setCell ⟨B, 3, none⟩ (.int .i64 (f 3))).setCell ⟨B, 4, none⟩ (.int .i64 (f 4))).setCell ⟨B, 5, none⟩ (.int .i64 (f 5))).setCell ⟨B, 6, none⟩ (.int .i64 (f 6))).setCell ⟨B, 7, none⟩ (.int .i64 (f 7))).setCell ⟨B, 8, none⟩ (.int .i64 (f 8))).setCell ⟨B, 9, none⟩ (.int .i64 (f 9))).setCell ⟨B, 10, none⟩ (.int .i64 (f 10))).setCell ⟨B, 11, none⟩ (.int .i64 (f 11))).cell? ⟨A, j, none⟩ = some v := by
  have h' : B ≠ A := fun e => h e.symm
  rw [World.cell?_setCell_far _ _ _ _ h', World.cell?_setCell_far _ _ _ _ h', World.cell?_setCell_far _ _ _ _ h', World.cell?_setCell_far _ _ _ _ h', World.cell?_setCell_far _ _ _ _ h', World.cell?_setCell_far _ _ _ _ h', World.cell?_setCell_far _ _ _ _ h', World.cell?_setCell_far _ _ _ _ h', World.cell?_setCell_far _ _ _ _ h', World.cell?_setCell_far _ _ _ _ h', World.cell?_setCell_far _ _ _ _ h', World.cell?_setCell_far _ _ _ _ h']
  exact hc
theorem st12_same {w : World} {B : Nat} {z : Nat → Int} (f : Nat → Int) (h : RcAt B z w) : RcAt B f ((((((((((((w.setCell ⟨B, 0, none⟩ (.int .i64 (f 0))).setCell ⟨B, 1, none⟩ (.int .i64 (f 1))).setCell ⟨B, 2, none⟩ (.int .i64 (f 2))).setCell ⟨B, 3, none⟩ (.int .i64 (f 3))).setCell ⟨B, 4, none⟩ (.int .i64 (f 4))).setCell ⟨B, 5, none⟩ (.int .i64 (f 5))).setCell ⟨B, 6, none⟩ (.int .i64 (f 6))).setCell ⟨B, 7, none⟩ (.int .i64 (f 7))).setCell ⟨B, 8, none⟩ (.int .i64 (f 8))).setCell ⟨B, 9, none⟩ (.int .i64 (f 9))).setCell ⟨B, 10, none⟩ (.int .i64 (f 10))).setCell ⟨B, 11, none⟩ (.int .i64 (f 11))) := by
  refine RcAt.congr (((((((((((((h.put 0 (by omega) (f 0)).put 1 (by omega) (f 1)).put 2 (by omega) (f 2)).put 3 (by omega) (f 3)).put 4 (by omega) (f 4)).put 5 (by omega) (f 5)).put 6 (by omega) (f 6)).put 7 (by omega) (f 7)).put 8 (by omega) (f 8)).put 9 (by omega) (f 9)).put 10 (by omega) (f 10)).put 11 (by omega) (f 11))) (fun i hi => ?_)
  obtain rfl | rfl | rfl | rfl | rfl | rfl | rfl | rfl | rfl | rfl | rfl | rfl := lt12 hi
  all_goals simp [upR]
theorem st12_other {w : World} {A B : Nat} {o : Obj} (f : Nat → Int) (hne : A ≠ B) (h : w.heap[A]? = some o) : ((((((((((((w.setCell ⟨B, 0, none⟩ (.int .i64 (f 0))).setCell ⟨B, 1, none⟩ (.int .i64 (f 1))).setCell ⟨B, 2, none⟩ (.int .i64 (f 2))).setCell ⟨B, 3, none⟩ (.int .i64 (f 3))).setCell ⟨B, 4, none⟩ (.int .i64 (f 4))).setCell ⟨B, 5, none⟩ (.int .i64 (f 5))).setCell ⟨B, 6, none⟩ (.int .i64 (f 6))).setCell ⟨B, 7, none⟩ (.int .i64 (f 7))).setCell ⟨B, 8, none⟩ (.int .i64 (f 8))).setCell ⟨B, 9, none⟩ (.int .i64 (f 9))).setCell ⟨B, 10, none⟩ (.int .i64 (f 10))).setCell ⟨B, 11, none⟩ (.int .i64 (f 11))).heap[A]? = some o := by
  rw [heap_setCell_other _ _ _ _ hne, heap_setCell_other _ _ _ _ hne, heap_setCell_other _ _ _ _ hne, heap_setCell_other _ _ _ _ hne, heap_setCell_other _ _ _ _ hne, heap_setCell_other _ _ _ _ hne, heap_setCell_other _ _ _ _ hne, heap_setCell_other _ _ _ _ hne, heap_setCell_other _ _ _ _ hne, heap_setCell_other _ _ _ _ hne, heap_setCell_other _ _ _ _ hne, heap_setCell_other _ _ _ _ hne]
  exact h
theorem st12_ext {W w : World} {B : Nat} (f : Nat → Int) (h : Ext W w) (hB : W.heap.size ≤ B) : Ext W ((((((((((((w.setCell ⟨B, 0, none⟩ (.int .i64 (f 0))).setCell ⟨B, 1, none⟩ (.int .i64 (f 1))).setCell ⟨B, 2, none⟩ (.int .i64 (f 2))).setCell ⟨B, 3, none⟩ (.int .i64 (f 3))).setCell ⟨B, 4, none⟩ (.int .i64 (f 4))).setCell ⟨B, 5, none⟩ (.int .i64 (f 5))).setCell ⟨B, 6, none⟩ (.int .i64 (f 6))).setCell ⟨B, 7, none⟩ (.int .i64 (f 7))).setCell ⟨B, 8, none⟩ (.int .i64 (f 8))).setCell ⟨B, 9, none⟩ (.int .i64 (f 9))).setCell ⟨B, 10, none⟩ (.int .i64 (f 10))).setCell ⟨B, 11, none⟩ (.int .i64 (f 11))) :=
  (((((((((((Ext.put h hB _ _).put hB _ _).put hB _ _).put hB _ _).put hB _ _).put hB _ _).put hB _ _).put hB _ _).put hB _ _).put hB _ _).put hB _ _).put hB _ _
theorem reg23 {W w : World} {Q : Nat} (q x : Nat → Int) (hE : Ext W w) (hQ : RcAt Q q w) :
    ∃ X, Value.pointer (some ⟨w.heap.size, 0, none⟩) = .pointer (some ⟨X, 0, none⟩) ∧ Box (RcAt X x (((((((((((((w.alloc (.cells #[.int .i64 0, .int .i64 0, .int .i64 0, .int .i64 0, .int .i64 0, .int .i64 0, .int .i64 0, .int .i64 0, .int .i64 0, .int .i64 0, .int .i64 0, .int .i64 0] 24)).drew.setCell ⟨w.heap.size, 0, none⟩ (.int .i64 (x 0))).setCell ⟨w.heap.size, 1, none⟩ (.int .i64 (x 1))).setCell ⟨w.heap.size, 2, none⟩ (.int .i64 (x 2))).setCell ⟨w.heap.size, 3, none⟩ (.int .i64 (x 3))).setCell ⟨w.heap.size, 4, none⟩ (.int .i64 (x 4))).setCell ⟨w.heap.size, 5, none⟩ (.int .i64 (x 5))).setCell ⟨w.heap.size, 6, none⟩ (.int .i64 (x 6))).setCell ⟨w.heap.size, 7, none⟩ (.int .i64 (x 7))).setCell ⟨w.heap.size, 8, none⟩ (.int .i64 (x 8))).setCell ⟨w.heap.size, 9, none⟩ (.int .i64 (x 9))).setCell ⟨w.heap.size, 10, none⟩ (.int .i64 (x 10))).setCell ⟨w.heap.size, 11, none⟩ (.int .i64 (x 11)))) ∧ Box (RcAt Q q (((((((((((((w.alloc (.cells #[.int .i64 0, .int .i64 0, .int .i64 0, .int .i64 0, .int .i64 0, .int .i64 0, .int .i64 0, .int .i64 0, .int .i64 0, .int .i64 0, .int .i64 0, .int .i64 0] 24)).drew.setCell ⟨w.heap.size, 0, none⟩ (.int .i64 (x 0))).setCell ⟨w.heap.size, 1, none⟩ (.int .i64 (x 1))).setCell ⟨w.heap.size, 2, none⟩ (.int .i64 (x 2))).setCell ⟨w.heap.size, 3, none⟩ (.int .i64 (x 3))).setCell ⟨w.heap.size, 4, none⟩ (.int .i64 (x 4))).setCell ⟨w.heap.size, 5, none⟩ (.int .i64 (x 5))).setCell ⟨w.heap.size, 6, none⟩ (.int .i64 (x 6))).setCell ⟨w.heap.size, 7, none⟩ (.int .i64 (x 7))).setCell ⟨w.heap.size, 8, none⟩ (.int .i64 (x 8))).setCell ⟨w.heap.size, 9, none⟩ (.int .i64 (x 9))).setCell ⟨w.heap.size, 10, none⟩ (.int .i64 (x 10))).setCell ⟨w.heap.size, 11, none⟩ (.int .i64 (x 11)))) ∧ Box (Ext W (((((((((((((w.alloc (.cells #[.int .i64 0, .int .i64 0, .int .i64 0, .int .i64 0, .int .i64 0, .int .i64 0, .int .i64 0, .int .i64 0, .int .i64 0, .int .i64 0, .int .i64 0, .int .i64 0] 24)).drew.setCell ⟨w.heap.size, 0, none⟩ (.int .i64 (x 0))).setCell ⟨w.heap.size, 1, none⟩ (.int .i64 (x 1))).setCell ⟨w.heap.size, 2, none⟩ (.int .i64 (x 2))).setCell ⟨w.heap.size, 3, none⟩ (.int .i64 (x 3))).setCell ⟨w.heap.size, 4, none⟩ (.int .i64 (x 4))).setCell ⟨w.heap.size, 5, none⟩ (.int .i64 (x 5))).setCell ⟨w.heap.size, 6, none⟩ (.int .i64 (x 6))).setCell ⟨w.heap.size, 7, none⟩ (.int .i64 (x 7))).setCell ⟨w.heap.size, 8, none⟩ (.int .i64 (x 8))).setCell ⟨w.heap.size, 9, none⟩ (.int .i64 (x 9))).setCell ⟨w.heap.size, 10, none⟩ (.int .i64 (x 10))).setCell ⟨w.heap.size, 11, none⟩ (.int .i64 (x 11)))) := by
  have hz : RcAt w.heap.size (fun _ => 0) (w.alloc (.cells #[.int .i64 0, .int .i64 0, .int .i64 0, .int .i64 0, .int .i64 0, .int .i64 0, .int .i64 0, .int .i64 0, .int .i64 0, .int .i64 0, .int .i64 0, .int .i64 0] 24)) := newblk _ _
  have hQX : Q ≠ w.heap.size := Nat.ne_of_lt (blk_lt hQ)
  have hQ2 : RcAt Q q (w.alloc (.cells #[.int .i64 0, .int .i64 0, .int .i64 0, .int .i64 0, .int .i64 0, .int .i64 0, .int .i64 0, .int .i64 0, .int .i64 0, .int .i64 0, .int .i64 0, .int .i64 0] 24)).drew := Ext.blk (Ext.drew1 (Ext.alloc (Below.refl _ _) _)) hQ
  have hE2 : Ext W (w.alloc (.cells #[.int .i64 0, .int .i64 0, .int .i64 0, .int .i64 0, .int .i64 0, .int .i64 0, .int .i64 0, .int .i64 0, .int .i64 0, .int .i64 0, .int .i64 0, .int .i64 0] 24)).drew := Ext.drew1 (Ext.alloc hE _)
  have hz2 : RcAt w.heap.size (fun _ => 0) (w.alloc (.cells #[.int .i64 0, .int .i64 0, .int .i64 0, .int .i64 0, .int .i64 0, .int .i64 0, .int .i64 0, .int .i64 0, .int .i64 0, .int .i64 0, .int .i64 0, .int .i64 0] 24)).drew := hz.ext (Ext.drew1 (Below.refl _ _))
  generalize (w.alloc (.cells #[.int .i64 0, .int .i64 0, .int .i64 0, .int .i64 0, .int .i64 0, .int .i64 0, .int .i64 0, .int .i64 0, .int .i64 0, .int .i64 0, .int .i64 0, .int .i64 0] 24)).drew = w2 at *
  exact ⟨w.heap.size, rfl, ⟨st12_same x hz2⟩, ⟨st12_other x hQX hQ2⟩, ⟨st12_ext x hE2 hE.size⟩⟩
/-- What the first part knows: the text, the error, whether there is one. -/
theorem texts_start (f : Nat → Int) (hf : ∀ i, i < 12 → f i ≤ 9223372036854775807) (W : World) (ht : EnvV W) : ∃ (y : ByteArray) (en : Int) (b : Bool),
    (∀ w', Ext W w' → Calls Tryz.prog 6 #[(.agg #[.int .i64 (f 0), .int .i64 (f 1), .int .i64 (f 2), .int .i64 (f 3), .int .i64 (f 4), .int .i64 (f 5), .int .i64 (f 6), .int .i64 (f 7), .int .i64 (f 8), .int .i64 (f 9), .int .i64 (f 10), .int .i64 (f 11)])] w' fun e w'' => e = .returned (.tuple #[.string y, .int .i64 en]) ∧ Ext w' w'') ∧
    (∀ w', Calls Tryz.prog 7 #[(.agg #[.int .i64 (f 0), .int .i64 (f 1), .int .i64 (f 2), .int .i64 (f 3), .int .i64 (f 4), .int .i64 (f 5), .int .i64 (f 6), .int .i64 (f 7), .int .i64 (f 8), .int .i64 (f 9), .int .i64 (f 10), .int .i64 (f 11)])] w' fun e w'' => e = .returned (.tuple #[.string y, .bool b]) ∧ Ext w' w'') ∧
    ((b = true ∧ en = 0 ∧ y.size ≤ 389 ∧ ∀ w', Ext W w' → Calls Tryz.prog 8 #[.string y] w' fun e w'' => e = .returned (.tuple #[(.agg #[.int .i64 (f 0), .int .i64 (f 1), .int .i64 (f 2), .int .i64 (f 3), .int .i64 (f 4), .int .i64 (f 5), .int .i64 (f 6), .int .i64 (f 7), .int .i64 (f 8), .int .i64 (f 9), .int .i64 (f 10), .int .i64 (f 11)]), .int .i64 0]) ∧ Ext w' w'') ∨ (b = false ∧ en = 2 ∧ y = ⟨#[]⟩)) := by
  by_cases hok : okR f
  · have hfit := fit_txt f hok hf
    have hsz := txtK_long f hf 12 (Nat.le_refl _)
    have hsz2 : (⟨(txtR (natF f)).toArray⟩ : ByteArray).size ≤ 389 := hsz
    refine ⟨⟨(txtR (natF f)).toArray⟩, 0, true, fun w' h => ?_, fun w' => ?_, Or.inl ⟨rfl, rfl, hsz2, fun w' h => ?_⟩⟩
    · refine (run_any f hf w' (ht.ext h)).mono fun e w'' hp => ?_
      unfold RunP at hp
      rcases hp with ⟨⟨_, rfl⟩ | ⟨hn, _⟩, hb⟩
      · exact ⟨rfl, hb⟩
      · exact absurd hok hn
    · refine (ltext_any f hf w').mono fun e w'' hp => ?_
      unfold LtxP at hp
      rcases hp with ⟨⟨_, rfl⟩ | ⟨hn, _⟩, hb⟩
      · exact ⟨rfl, hb⟩
      · exact absurd hok hn
    · refine (readrun_any ⟨(txtR (natF f)).toArray⟩ (by omega) w' (ht.ext h)).mono fun e w'' hp => ?_
      unfold RrP at hp
      rcases hp with ⟨⟨_, rfl⟩ | ⟨hn, _⟩, hb⟩
      · refine ⟨?_, hb⟩
        have e1 : rC (readR (txtR (natF f))) = rC f := rC_congr hfit.1
        have e2 : (Value.agg (rC (readR (txtR (natF f))))) = .agg (rC f) := by rw [e1]
        exact congrArg (fun v => Ending.returned (.tuple #[v, .int .i64 0])) e2
      · exact absurd hfit.2 hn
  · refine ⟨⟨#[]⟩, 2, false, fun w' h => ?_, fun w' => ?_, Or.inr ⟨rfl, rfl, rfl⟩⟩
    · refine (run_any f hf w' (ht.ext h)).mono fun e w'' hp => ?_
      unfold RunP at hp
      rcases hp with ⟨⟨hn, _⟩ | ⟨_, rfl⟩, hb⟩
      · exact absurd hn hok
      · exact ⟨rfl, hb⟩
    · refine (ltext_any f hf w').mono fun e w'' hp => ?_
      unfold LtxP at hp
      rcases hp with ⟨⟨hn, _⟩ | ⟨_, rfl⟩, hb⟩
      · exact absurd hn hok
      · exact ⟨rfl, hb⟩
/-- What ReadRun answers at the other string. -/
theorem texts_read (s : ByteArray) (hs : s.size ≤ 400) (W : World) (ht : EnvV W) : ∃ (q : Nat → Int) (en : Int), (∀ i, i < 12 → q i ≤ 9223372036854775807) ∧
    (∀ w', Ext W w' → Calls Tryz.prog 8 #[.string s] w' fun e w'' => e = .returned (.tuple #[(.agg #[.int .i64 (q 0), .int .i64 (q 1), .int .i64 (q 2), .int .i64 (q 3), .int .i64 (q 4), .int .i64 (q 5), .int .i64 (q 6), .int .i64 (q 7), .int .i64 (q 8), .int .i64 (q 9), .int .i64 (q 10), .int .i64 (q 11)]), .int .i64 en]) ∧ Ext w' w'') ∧
    ((fitR s.data.toList ∧ en = 0 ∧ q = readR s.data.toList) ∨ (¬ fitR s.data.toList ∧ en = 6 ∧ q = fun _ => 0)) := by
  by_cases h : fitR s.data.toList
  · refine ⟨readR s.data.toList, 0, fun i _ => readR_le _ i, fun w' hb => ?_, Or.inl ⟨h, rfl, rfl⟩⟩
    refine (readrun_any s (by omega) w' (ht.ext hb)).mono fun e w'' hp => ?_
    unfold RrP at hp
    rcases hp with ⟨⟨_, rfl⟩ | ⟨hn, _⟩, hb⟩
    · exact ⟨rfl, hb⟩
    · exact absurd h hn
  · refine ⟨fun _ => 0, 6, fun i _ => by show (0 : Int) ≤ 9223372036854775807; decide, fun w' hb => ?_, Or.inr ⟨h, rfl, rfl⟩⟩
    refine (readrun_any s (by omega) w' (ht.ext hb)).mono fun e w'' hp => ?_
    unfold RrP at hp
    rcases hp with ⟨⟨hn, _⟩ | ⟨_, rfl⟩, hb⟩
    · exact absurd hn h
    · exact ⟨rfl, hb⟩
theorem run_yes (q : Nat → Int) (hq : ∀ i, i < 12 → q i ≤ 9223372036854775807) (hok : okR q) (W : World) (ht : EnvV W) (w' : World) (h : Ext W w') : Calls Tryz.prog 6 #[(.agg #[.int .i64 (q 0), .int .i64 (q 1), .int .i64 (q 2), .int .i64 (q 3), .int .i64 (q 4), .int .i64 (q 5), .int .i64 (q 6), .int .i64 (q 7), .int .i64 (q 8), .int .i64 (q 9), .int .i64 (q 10), .int .i64 (q 11)])] w' fun e w'' => e = .returned (.tuple #[.string ⟨(txtR (natF q)).toArray⟩, .int .i64 0]) ∧ Ext w' w'' := by
  refine (run_any q hq w' (ht.ext h)).mono fun e w'' hp => ?_
  unfold RunP at hp
  rcases hp with ⟨⟨_, rfl⟩ | ⟨hn, _⟩, hb⟩
  · exact ⟨rfl, hb⟩
  · exact absurd hok hn
theorem text_yes (q : Nat → Int) (hq : ∀ i, i < 12 → q i ≤ 9223372036854775807) (hok : okR q) (w' : World) : Calls Tryz.prog 7 #[(.agg #[.int .i64 (q 0), .int .i64 (q 1), .int .i64 (q 2), .int .i64 (q 3), .int .i64 (q 4), .int .i64 (q 5), .int .i64 (q 6), .int .i64 (q 7), .int .i64 (q 8), .int .i64 (q 9), .int .i64 (q 10), .int .i64 (q 11)])] w' fun e w'' => e = .returned (.tuple #[.string ⟨(txtR (natF q)).toArray⟩, .bool true]) ∧ Ext w' w'' := by
  refine (ltext_any q hq w').mono fun e w'' hp => ?_
  unfold LtxP at hp
  rcases hp with ⟨⟨_, rfl⟩ | ⟨hn, _⟩, hb⟩
  · exact ⟨rfl, hb⟩
  · exact absurd hok hn
set_option maxRecDepth 100000 in
set_option maxHeartbeats 4000000 in
theorem texts_far (f : Nat → Int) (s : ByteArray) (hs : 400 < s.size) (W : World) (ht : EnvV W) :
    Calls Tryz.prog 3 #[(.agg #[.int .i64 (f 0), .int .i64 (f 1), .int .i64 (f 2), .int .i64 (f 3), .int .i64 (f 4), .int .i64 (f 5), .int .i64 (f 6), .int .i64 (f 7), .int .i64 (f 8), .int .i64 (f 9), .int .i64 (f 10), .int .i64 (f 11)]), .string s] W fun e W' => e = .returned (.bool true) ∧ Below W.heap.size W W' := by
  have ck : Box (∀ w', Ext W w' → _) := ⟨fun w' h => known_any w' (ht.ext h)⟩
  have hx : Ext W (W.alloc (.cells #[.int .i64 (f 0), .int .i64 (f 1), .int .i64 (f 2), .int .i64 (f 3), .int .i64 (f 4), .int .i64 (f 5), .int .i64 (f 6), .int .i64 (f 7), .int .i64 (f 8), .int .i64 (f 9), .int .i64 (f 10), .int .i64 (f 11)] 24)) := Ext.alloc (Below.refl _ _) _
  have d3 : decide ((400 : Int) < (s.size : Int)) = true := decide_eq_true (by omega)
  have d4 : decide (400 < s.size) = true := decide_eq_true hs
  clear ht hs
  go_enter Tryz.func3, Tryz.ntmps3
  go_wp2_with (first
    | (go_at_call 5; (with_reducible refine (ck.out _ hx).mono ?_); rintro e w4 ⟨rfl, hb⟩; replace hx := Ext.trans' hx hb))
  go_ret
  exact ⟨rfl, hx⟩
end Go.Proofs.YtcofejbkbcdopaaGreatDoor
