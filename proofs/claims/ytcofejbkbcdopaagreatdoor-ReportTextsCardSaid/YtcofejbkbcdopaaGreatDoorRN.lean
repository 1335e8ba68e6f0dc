import Derived.Test.YtcofejbkbcdopaaGreatDoorRW
import Derived.Test.YtcofejbkbcdopaaGreatDoorRI
/- What a run counts: the plain laws. -/
namespace Go.Proofs.YtcofejbkbcdopaaGreatDoor
open Go.RowKit
/-- Cells that do not matter. -/
structure Oth where
  u : Nat → Int
  s : Nat → ByteArray
  a : Nat → Option Addr
  n : Nat → Nat
  c : Nat → Nat
instance : Inhabited Oth := ⟨⟨fun _ => 0, fun _ => ⟨#[]⟩, fun _ => none, fun _ => 0, fun _ => 0⟩⟩
structure Ev6 where
  k : Int
  r : Oth
def Ev6.cs (x : Ev6) : List Value := [.int .i64 x.k, .string (x.r.s 1), .slice (x.r.a 2) (x.r.n 2) (x.r.c 2), .int .u64 (x.r.u 3), .int .u64 (x.r.u 4), .int .u64 (x.r.u 5)]
instance : Inhabited Ev6 := ⟨⟨0, default⟩⟩
structure Res where
  k : Int
  r : Oth
  e : Int
  hit : Bool
  ea : Option Addr
  ec : Nat
  el : List Ev6
  len : Int
  cost : Int
instance : Inhabited Res := ⟨⟨0, default, 0, false, none, 0, [], 0, 0⟩⟩
def Res.cs (x : Res) : List Value := [.int .i64 x.k, .int .u64 (x.r.u 1), .string (x.r.s 2), .slice (x.r.a 3) (x.r.n 3) (x.r.c 3), .int .u64 (x.r.u 4), .int .i64 (x.r.u 5), .int .i64 (x.r.u 6), .int .i64 (x.r.u 7), .int .u64 (x.r.u 8), .int .u64 (x.r.u 9), .int .i64 x.e, .bool x.hit, .slice (x.r.a 12) (x.r.n 12) (x.r.c 12), .string (x.r.s 13), .slice (x.r.a 14) (x.r.n 14) (x.r.c 14), .int .u64 (x.r.u 15), .int .u64 (x.r.u 16), .int .i64 (x.r.u 17), .slice x.ea x.el.length x.ec, .int .i64 x.len, .int .i64 x.cost]
def Res.read (x : Res) : Bool := x.k == 3 || x.k == 4 || x.k == 5
def Res.put (x : Res) : Bool := x.k == 1 || x.k == 2
def nE (L : List Res) : Nat := L.countP (fun x => !(x.e == 0))
def nG (L : List Res) : Nat := L.countP (fun x => x.e == 0 && x.read)
def nH (L : List Res) : Nat := L.countP (fun x => x.e == 0 && x.read && x.hit)
def nS (L : List Res) : Nat := L.countP (fun x => x.e == 0 && x.put)
def nK (j : Int) (E : List Ev6) : Nat := E.countP (fun v => v.k == j)
def nV (j : Int) (L : List Res) : Nat := (L.map fun x => nK j x.el).sum
def gt (y x : Int) : Int := if y > x then y else x
def mL (L : List Res) : Int := L.foldl (fun a x => gt x.len a) 0
def mC (L : List Res) : Int := L.foldl (fun a x => gt x.cost a) 0
/-- The count of a run, field by field. -/
def fR (L : List Res) (i : Nat) : Int :=
  if i = 0 then L.length else if i = 1 then nE L else if i = 2 then nG L else if i = 3 then nH L else if i = 4 then nS L else if i ≤ 9 then nV ((i : Int) - 4) L else if i = 10 then mL L else mC L
def upR (f : Nat → Int) (q : Nat) (x : Int) (j : Nat) : Int := if j = q then x else f j
def rC (f : Nat → Int) : Array Value := #[.int .i64 (f 0), .int .i64 (f 1), .int .i64 (f 2), .int .i64 (f 3), .int .i64 (f 4), .int .i64 (f 5), .int .i64 (f 6), .int .i64 (f 7), .int .i64 (f 8), .int .i64 (f 9), .int .i64 (f 10), .int .i64 (f 11)]
theorem rC_congr {f g : Nat → Int} (h : ∀ i, i < 12 → f i = g i) : rC f = rC g := by
  unfold rC
  rw [h 0 (by omega), h 1 (by omega), h 2 (by omega), h 3 (by omega), h 4 (by omega), h 5 (by omega), h 6 (by omega), h 7 (by omega), h 8 (by omega), h 9 (by omega), h 10 (by omega), h 11 (by omega)]
theorem rC_set (f : Nat → Int) (q : Nat) (x : Int) (hq : q < 12) : (rC f).setIfInBounds q (.int .i64 x) = rC (upR f q x) := by
  obtain rfl | rfl | rfl | rfl | rfl | rfl | rfl | rfl | rfl | rfl | rfl | rfl : q = 0 ∨ q = 1 ∨ q = 2 ∨ q = 3 ∨ q = 4 ∨ q = 5 ∨ q = 6 ∨ q = 7 ∨ q = 8 ∨ q = 9 ∨ q = 10 ∨ q = 11 := by omega
  all_goals rfl
/-- The count's block. -/
def RcAt (C : Nat) (f : Nat → Int) (w : World) : Prop := w.heap[C]? = some (.cells (rC f) 24 (0, 0))
theorem RcAt.put {C : Nat} {f : Nat → Int} {w : World} (h : RcAt C f w) (q : Nat) (hq : q < 12) (x : Int) : RcAt C (upR f q x) (w.setCell ⟨C, q, none⟩ (.int .i64 x)) := by
  unfold RcAt at *
  rw [heap_setCell_same w C q _ _ _ h, rC_set f q x hq]
theorem RcAt.cell {C : Nat} {f : Nat → Int} {w : World} (h : RcAt C f w) (q : Nat) (hq : q < 12) : w.cell? ⟨C, q, none⟩ = some (.int .i64 (f q)) := by
  rw [Lib.cell_of_heap h]
  obtain rfl | rfl | rfl | rfl | rfl | rfl | rfl | rfl | rfl | rfl | rfl | rfl : q = 0 ∨ q = 1 ∨ q = 2 ∨ q = 3 ∨ q = 4 ∨ q = 5 ∨ q = 6 ∨ q = 7 ∨ q = 8 ∨ q = 9 ∨ q = 10 ∨ q = 11 := by omega
  all_goals rfl
theorem RcAt.froz {C : Nat} {f : Nat → Int} {w : World} (h : RcAt C f w) (q : Nat) : w.frozen? ⟨C, q, none⟩ = false := Lib.frozen_of_heap h q
theorem RcAt.congr {C : Nat} {f g : Nat → Int} {w : World} (h : RcAt C f w) (e : ∀ i, i < 12 → f i = g i) : RcAt C g w := by
  unfold RcAt at *; rw [h, rC_congr e]
theorem RcAt.ext {C : Nat} {f : Nat → Int} {w w' : World} (h : RcAt C f w) (hb : Ext w w') : RcAt C f w' := Ext.blk hb h
/-- the events' part -/
def evR (h : Nat → Int) (E : List Ev6) (i : Nat) : Int := if 5 ≤ i ∧ i ≤ 9 then h i + (nK ((i : Int) - 4) E : Nat) else h i
theorem evR_nil (h : Nat → Int) : ∀ i, i < 12 → h i = evR h [] i := fun i _ => by
  unfold evR nK; split <;> simp
theorem take_snoc {α : Type} [Inhabited α] (L : List α) (t : Nat) (h : t < L.length) : L.take (t + 1) = L.take t ++ [L[t]] := List.take_succ_eq_append_getElem h
theorem evR_yes (h : Nat → Int) (E : List Ev6) (t k : Nat) (ht : t < E.length) (hk : (E[t]).k = k) (h1 : 1 ≤ k) (h5 : k ≤ 5) : ∀ i, i < 12 → upR (evR h (E.take t)) (4 + k) (evR h (E.take t) (4 + k) + 1) i = evR h (E.take (t + 1)) i := by
  intro i hi
  rw [take_snoc E t ht]
  unfold upR evR nK
  rw [List.countP_append]
  simp only [List.countP_cons, List.countP_nil, hk]
  by_cases e : i = 4 + k
  · subst e
    rw [if_pos rfl, if_pos (by omega), if_pos (by omega)]
    have : ((k : Int) == ((4 + k : Nat) : Int) - 4) = true := by rw [beq_iff_eq]; omega
    rw [this, if_pos rfl]
    omega
  · rw [if_neg e]
    by_cases e2 : 5 ≤ i ∧ i ≤ 9
    · rw [if_pos e2, if_pos e2]
      have : ((k : Int) == (i : Int) - 4) = false := by rw [beq_eq_false_iff_ne]; omega
      rw [this]; simp
    · rw [if_neg e2, if_neg e2]
theorem evR_no (h : Nat → Int) (E : List Ev6) (t : Nat) (ht : t < E.length) (hk : (E[t]).k < 1 ∨ 5 < (E[t]).k) : ∀ i, i < 12 → evR h (E.take t) i = evR h (E.take (t + 1)) i := by
  intro i hi
  rw [take_snoc E t ht]
  unfold evR nK
  rw [List.countP_append]
  simp only [List.countP_cons, List.countP_nil]
  by_cases e2 : 5 ≤ i ∧ i ≤ 9
  · rw [if_pos e2, if_pos e2]
    have : ((E[t]).k == (i : Int) - 4) = false := by rw [beq_eq_false_iff_ne]; omega
    rw [this]; simp
  · rw [if_neg e2, if_neg e2]
theorem nK_le (j : Int) (E : List Ev6) : nK j E ≤ E.length := List.countP_le_length
theorem nV_le (j : Int) (L : List Res) (h : ∀ x ∈ L, x.el.length ≤ 20) : nV j L ≤ 20 * L.length := by
  induction L with
  | nil => simp [nV]
  | cons x l ih =>
    have h1 := nK_le j x.el
    have h2 := h x (by simp)
    have h3 := ih (fun y hy => h y (by simp [hy]))
    simp only [nV, List.map_cons, List.sum_cons, List.length_cons] at h3 ⊢
    omega
theorem fR_bound (L : List Res) (h : ∀ x ∈ L, x.el.length ≤ 20) (i : Nat) (hi : i < 10) : 0 ≤ fR L i ∧ fR L i ≤ 20 * L.length := by
  unfold fR
  have a1 : nE L ≤ L.length := List.countP_le_length
  have a2 : nG L ≤ L.length := List.countP_le_length
  have a3 : nH L ≤ L.length := List.countP_le_length
  have a4 : nS L ≤ L.length := List.countP_le_length
  have a5 := nV_le ((i : Int) - 4) L h
  repeat' split
  all_goals omega
theorem fR_nil (i : Nat) : fR [] i = 0 := by
  unfold fR
  repeat' split
  all_goals rfl
/-- One result more. -/
def stepR (f : Nat → Int) (x : Res) (i : Nat) : Int :=
  if i = 0 then f 0 + 1 else if i = 1 then f 1 + (if x.e = 0 then 0 else 1) else if i = 2 then f 2 + (if x.e = 0 ∧ x.read = true then 1 else 0) else if i = 3 then f 3 + (if x.e = 0 ∧ x.read = true ∧ x.hit = true then 1 else 0)
  else if i = 4 then f 4 + (if x.e = 0 ∧ x.put = true then 1 else 0) else if i ≤ 9 then f i + (nK ((i : Int) - 4) x.el : Nat) else if i = 10 then gt x.len (f 10) else gt x.cost (f 11)
theorem fR_step (L : List Res) (t : Nat) (ht : t < L.length) : ∀ i, i < 12 → stepR (fR (L.take t)) (L[t]) i = fR (L.take (t + 1)) i := by
  intro i hi
  rw [take_snoc L t ht]
  generalize L[t] = x
  generalize L.take t = l
  unfold stepR
  by_cases h0 : i = 0
  · subst h0; simp [fR]
  rw [if_neg h0]
  by_cases h1 : i = 1
  · subst h1; by_cases he : x.e = 0 <;> simp [fR, nE, he, List.countP_append, List.countP_cons]
  rw [if_neg h1]
  by_cases h2 : i = 2
  · subst h2; by_cases he : x.e = 0 <;> cases hr : x.read <;> simp [fR, nG, he, hr, List.countP_append, List.countP_cons]
  rw [if_neg h2]
  by_cases h3 : i = 3
  · subst h3; by_cases he : x.e = 0 <;> cases hr : x.read <;> cases hh : x.hit <;> simp [fR, nH, he, hr, hh, List.countP_append, List.countP_cons]
  rw [if_neg h3]
  by_cases h4 : i = 4
  · subst h4; by_cases he : x.e = 0 <;> cases hr : x.put <;> simp [fR, nS, he, hr, List.countP_append, List.countP_cons]
  rw [if_neg h4]
  by_cases h9 : i ≤ 9
  · rw [if_pos h9]
    simp [fR, nV, h0, h1, h2, h3, h4, h9, List.sum_append]
  rw [if_neg h9]
  by_cases h10 : i = 10
  · subst h10; simp [fR, mL]
  · rw [if_neg h10]
    obtain rfl : i = 11 := by omega
    simp [fR, mC]
/-- A run of empty results. -/
theorem fR_zero (n : Nat) (x : Res) (he : x.e = 0) (hk : x.k = 0) (hl : x.el = []) (h1 : x.len = 0) (h2 : x.cost = 0) (i : Nat) (hi : i < 12) : fR (List.replicate n x) i = if i = 0 then (n : Int) else 0 := by
  have key : ∀ m, m ≤ n → fR ((List.replicate n x).take m) i = if i = 0 then (m : Int) else 0 := by
    intro m
    induction m with
    | zero => intro _; rw [List.take_zero, fR_nil]; split <;> simp
    | succ m ih =>
      intro hm
      have h := ih (by omega)
      have h0 : ∀ j, j < 12 → True := fun _ _ => trivial
      have hs := fR_step (List.replicate n x) m (by rw [List.length_replicate]; omega) i hi
      rw [← hs, List.getElem_replicate]
      generalize fR ((List.replicate n x).take m) = g at h ⊢
      unfold stepR
      have hrd : x.read = false := by simp [Res.read, hk]
      have hpt : x.put = false := by simp [Res.put, hk]
      by_cases e0 : i = 0
      · subst e0; simp at h ⊢; omega
      · simp only [if_neg e0] at h ⊢
        rw [he, hrd, hpt, hl, h1, h2]
        by_cases e1 : i = 1
        · subst e1; simp [h]
        by_cases e2 : i = 2
        · subst e2; simp [h]
        by_cases e3 : i = 3
        · subst e3; simp [h]
        by_cases e4 : i = 4
        · subst e4; simp [h]
        by_cases e9 : i ≤ 9
        · simp [e1, e2, e3, e4, e9, h, nK]
        by_cases e10 : i = 10
        · subst e10; simp [h, gt]
        · obtain rfl : i = 11 := by omega
          simp [h, gt]
  have := key n (Nat.le_refl _)
  rwa [List.take_of_length_le (by simp)] at this
end Go.Proofs.YtcofejbkbcdopaaGreatDoor
