import Derived.Test.YtapngkjgagapeaaDoorE1
import Derived.Test.YtapngkjgagapeaaDoorEB
import Derived.Shelf.Bytes.SlEqualAll
/- Slices of bytes; contracts of Copy, Equal, Before and New of package entry and its reference. -/
namespace Go.Proofs.YtapngkjgagapeaaDoor
open Go.RowKit

theorem bcell {W w1 : World} (hb : Ext W w1) : (∀ b o, b < W.heap.size → w1.cell? ⟨b, o, none⟩ = W.cell? ⟨b, o, none⟩) ∧ (∀ b o, b < W.heap.size → w1.frozen? ⟨b, o, none⟩ = W.frozen? ⟨b, o, none⟩) :=
  ⟨fun b o h => Below.cell hb (p := ⟨b, o, none⟩) h, fun b o h => Below.frozen hb (p := ⟨b, o, none⟩) h⟩

def nums (l : List UInt8) : List Int := l.map fun b => (b.toNat : Int)
theorem nums_len (l : List UInt8) : (nums l).length = l.length := by simp [nums]
theorem bytesOf_nums (l : List UInt8) : Lib.bytesOf (nums l) = l := by
  unfold Lib.bytesOf nums
  rw [List.map_map]
  conv => rhs; rw [← List.map_id l]
  apply List.map_congr_left
  intro b _
  simp
theorem nums_getD (l : List UInt8) (j : Nat) (h : j < l.length) : (nums l).getD j 0 = (l[j].toNat : Int) := by
  rw [List.getD_eq_getElem?_getD, List.getElem?_eq_getElem (by rw [nums_len]; exact h)]
  simp [nums]
/-- A slice value that holds the bytes l. -/
def By (w : World) (v : Value) (l : List UInt8) : Prop :=
  ∃ a c, v = .slice a l.length c ∧ l.length ≤ 140737488355328 ∧ True ∧ True ∧ Lib.BytesIn w a l.length (nums l)
theorem bytesIn_ext {w w' : World} (h : Ext w w') {a : Option Addr} {n : Nat} {xs : List Int} (hc : Lib.BytesIn w a n xs) : Lib.BytesIn w' a n xs := by
  intro hn
  obtain ⟨b, o, rfl, h1⟩ := hc hn
  exact ⟨b, o, rfl, fun i hi => h.cell (h1 i hi)⟩
theorem By.ext {w w' : World} (h : Ext w w') {v : Value} {l : List UInt8} (hc : By w v l) : By w' v l := by
  obtain ⟨a, c, h1, h2, h3, h4, h5⟩ := hc
  exact ⟨a, c, h1, h2, h3, h4, bytesIn_ext h h5⟩
theorem By.nil (w : World) : By w (.slice none 0 0) [] := ⟨none, 0, rfl, by decide, by decide, by decide, Lib.BytesIn.nil _ _ _⟩
theorem By.owns {w : World} {base : Nat} {v : Value} {l : List UInt8} (h : w.ownsRow base 5 1 v l.length ((nums l).map (Value.int .u8))) (hn : l.length ≤ 140737488355328) : By w v l := by
  rcases h.2 with ⟨rfl, h0⟩ | ⟨g, cap, cur, rfl, hb, hg, hnc, hcm, hcs, htake⟩
  · have : l = [] := List.eq_nil_of_length_eq_zero h0
    subst this; exact By.nil w
  · refine ⟨some ⟨g, 0, none⟩, cap, rfl, hn, trivial, trivial, fun h0 => ⟨g, 0, rfl, fun i hi => ?_⟩⟩
    have hi' : i < (nums l).length := by rw [nums_len]; exact hi
    have := h.cells (g := g) rfl i (.int .u8 ((nums l).getD i 0)) (by rw [List.getElem?_map, List.getD_eq_getElem?_getD, List.getElem?_eq_getElem hi']; rfl)
    rw [Go.WideShapes.add_plain] at this
    exact this
theorem By.size {w : World} {v : Value} {l : List UInt8} (h : By w v l) : ∃ a c, v = .slice a l.length c ∧ l.length ≤ 9223372036854775807 := by
  obtain ⟨a, c, h1, h2, _⟩ := h
  exact ⟨a, c, h1, by omega⟩
theorem By.convP {P : Program} {t e d : TypeId} {w : World} {v : Value} {l : List UInt8} (h : By w v l) (hs : P.underlying t = some (.slice e)) (he : P.underlying e = some (.int .u8)) (hd : P.underlying d = some .string) :
    (convert t d v).run P w = .ok (.string ⟨l.toArray⟩) w := by
  obtain ⟨a, c, rfl, _, _, _, h5⟩ := h
  have h6 := h5.convert (P := P) (nums_len l) c t e d hs he hd
  have h7 : strOfNums (nums l) = ⟨l.toArray⟩ := by
    have e1 := bytesOf_nums l
    unfold strOfNums
    apply ByteArray.ext
    apply Array.ext'
    simpa [Lib.bytesOf] using e1
  rw [h7] at h6
  exact h6
set_option maxRecDepth 100000 in
theorem By.conv {w : World} {v : Value} {l : List UInt8} (h : By w v l) : (convert 24 9 v).run Tryd.prog w = .ok (.string ⟨l.toArray⟩) w :=
  h.convP Tryd.underlying24 Tryd.underlying5 Tryd.underlying9
def OwnB (B : Nat) (w : World) (v : Value) (l : List UInt8) : Prop := w.ownsRow B 5 1 v l.length ((nums l).map (Value.int .u8))
theorem OwnB.shape {B : Nat} {w : World} {v : Value} {l : List UInt8} (h : OwnB B w v l) : ∃ a c, v = .slice a l.length c := by
  rcases h.2 with ⟨rfl, h0⟩ | ⟨g, cap, cur, rfl, _⟩
  · exact ⟨none, 0, by rw [h0]⟩
  · exact ⟨_, _, rfl⟩
theorem OwnB.by {B : Nat} {w : World} {v : Value} {l : List UInt8} (h : OwnB B w v l) (hn : l.length ≤ 140737488355328) : By w v l := By.owns h hn
theorem OwnB.ext {B : Nat} {w w' : World} {v : Value} {l : List UInt8} (h : OwnB B w v l) (hb : Ext w w') : OwnB B w' v l := by
  refine ⟨h.1, ?_⟩
  rcases h.2 with h2 | ⟨g, cap, cur, hv, hb1, hg, r⟩
  · exact Or.inl h2
  · exact Or.inr ⟨g, cap, cur, hv, hb1, (hb.block g (Array.getElem?_eq_some_iff.1 hg).1).trans hg, r⟩
theorem OwnB.mono {B C : Nat} {w : World} {v : Value} {l : List UInt8} (h : OwnB B w v l) (hb : C ≤ B) : OwnB C w v l := by
  refine ⟨h.1, ?_⟩
  rcases h.2 with h2 | ⟨g, cap, cur, hv, hb1, r⟩
  · exact Or.inl h2
  · exact Or.inr ⟨g, cap, cur, hv, by omega, r⟩
theorem OwnB.setCell {B : Nat} {w : World} {v : Value} {l : List UInt8} (h : OwnB B w v l) {p : Addr} (hp : p.block < B) (x : Value) : OwnB B (w.setCell p x) v l := by
  refine ⟨h.1, ?_⟩
  rcases h.2 with h2 | ⟨g, cap, cur, hv, hb1, hg, r⟩
  · exact Or.inl h2
  · exact Or.inr ⟨g, cap, cur, hv, hb1, (Below.heap_setCell _ _ _ _ (by omega)).trans hg, r⟩

set_option maxHeartbeats 400000 in
theorem clone_any (v : Value) (l : List UInt8) (w : World) (h : By w v l) :
    Calls Tryd.prog 67 #[v] w fun e w' => ∃ v', e = .returned v' ∧ OwnB w.heap.size w' v' l ∧ Below w.heap.size w w' := by
  obtain ⟨a, c, rfl, h2, h3, h4, h5⟩ := h
  cases a with
  | none =>
    have hl : l = [] := by
      rcases Nat.eq_zero_or_pos l.length with h0 | h0
      · exact List.eq_nil_of_length_eq_zero h0
      · obtain ⟨b, o, he, _⟩ := h5 h0; cases he
    subst hl
    refine (Tryd.bytes_Clone_nil 0 c w).mono ?_
    rintro e w' ⟨rfl, rfl⟩
    exact ⟨_, rfl, World.ownsRow_nil _ _ _ _, Below.refl _ _⟩
  | some x =>
    refine (Tryd.bytes_Clone_at x l.length c (nums l) w (nums_len l) h2 fun i hi => ?_).mono ?_
    · obtain ⟨b, o, he, hc⟩ := h5 (by omega)
      cases he
      have := hc i hi
      rw [Go.WideShapes.add_plain]; exact this
    · rintro e w' ⟨v', rfl, ho, _, hb⟩
      exact ⟨v', rfl, ho, hb⟩
theorem beq_any (v1 v2 : Value) (l1 l2 : List UInt8) (w : World) (h1 : By w v1 l1) (h2 : By w v2 l2) :
    Calls Tryd.prog 56 #[v1, v2] w fun e w' => e = .returned (.bool (l1 == l2)) ∧ w = w' := by
  obtain ⟨a, c, rfl, _, _, _, h5⟩ := h1
  obtain ⟨a', c', rfl, _, _, _, h5'⟩ := h2
  refine (Tryd.bytes_Equal_all a a' l1.length c l2.length c' (nums l1) (nums l2) w (nums_len _) (nums_len _) h5 h5').mono ?_
  rintro e w' ⟨rfl, rfl⟩
  rw [bytesOf_nums, bytesOf_nums]
  exact ⟨rfl, rfl⟩
end Go.Proofs.YtapngkjgagapeaaDoor
