import Derived.Test.YtnblbneehogadaaRows
import Derived.WalkKit
import Derived.WalkSmall
import Derived.Handy
import Derived.Lib.Hide
import Derived.Deep.QuietTactic
import Derived.BigQuiet
import Derived.ProofKit
/- Small laws of my own on returned values, on worlds that only grow, and on a slice that a call builds element by element. -/
namespace Go.Proofs.Ytnblbneehogadaa
open Go.RowKit

/-- A fact kept from the walk: no unfolding looks into it. -/
structure Box (p : Prop) : Prop where
  out : p

theorem ret_int {k : IntKind} {a b : Int} (h : a = b) : Ending.returned (.int k a) = .returned (.int k b) := by rw [h]
theorem ret_int2 {k j : IntKind} {a b c d : Int} (h : a = b) (h' : c = d) : Ending.returned (.tuple #[.int k a, .int j c]) = .returned (.tuple #[.int k b, .int j d]) := by rw [h, h']
theorem ret_bool {a b : Bool} (h : a = b) : Ending.returned (.bool a) = .returned (.bool b) := by rw [h]

/-- The world has grown: nothing that there was has turned. -/
abbrev Ext (w w' : World) : Prop := Below w.heap.size w w'
theorem Ext.trans' {a b c : World} (h : Ext a b) (k : Ext b c) : Ext a c := h.trans (k.mono h.size)
theorem Ext.drewN {a w : World} (h : Ext a w) (n : Nat) : Ext a (w.drewN n) := below_drewN h n
theorem Ext.alloc {a w : World} (h : Ext a w) (o : Obj) : Ext a (w.alloc o) := Below.alloc h h.size o
theorem Ext.cell {w w' : World} (h : Ext w w') {b o : Nat} {v : Value} (hc : w.cell? ⟨b, o, none⟩ = some v) : w'.cell? ⟨b, o, none⟩ = some v :=
  (Below.cell h (p := ⟨b, o, none⟩) (World.block_lt_of_cell? w _ hc)).trans hc
theorem lt_of_cell {w : World} {b o : Nat} {v : Value} (hc : w.cell? ⟨b, o, none⟩ = some v) : b < w.heap.size := World.block_lt_of_cell? w ⟨b, o, none⟩ hc

theorem cells_new (w : World) (news : List Value) (e : TypeId) : ∀ j u, news[j]? = some u → (w.alloc (.cells news.toArray e)).cell? ((⟨w.heap.size, 0, none⟩ : Addr).add j) = some u := by
  intro j u hj
  have hadd : (⟨w.heap.size, 0, none⟩ : Addr).add j = ⟨w.heap.size, j, none⟩ := by unfold Addr.add; split <;> simp_all
  rw [hadd, World.cell?_alloc_new]
  simpa using hj

/-- 's = append(s, x)' where s is nil or the call's own, and x's cells lie in a block that was just made. -/
theorem wpList_push {P : Program} {ops : Array Oper} {rest : List Oper} {o : Oper} {a : Act} {Q : Exit → Act → World → Prop} {w0 : World} (hgd : o.guard = none) (s x : Operand) (t : TypeId)
    (ho : o.op = .call { callee := .builtin .append, args := #[s, x], argTypes := #[t, t] })
    (base : Nat) (e : TypeId) (i : TypeInfo) (z : Value) (size bytes : Nat) (ht : P.underlying t = some (.slice e)) (hi : P.info? e = some i) (hz : i.zero = some z)
    (hsize : i.size = size) (hby : i.bytes = bytes) (hzs : z.cells.size = size) (hsz : 0 < size)
    (v : Value) (n : Nat) (xs : List Value) (hs : a.eval s = v) (hown : w0.ownsRow base e size v n xs)
    (news : List Value) (hx : a.eval x = .slice (some ⟨w0.heap.size, 0, none⟩) 1 1) (hl : news.length = size) (h1 : ∀ u ∈ news, u.oneCell' = true)
    (hlen : n + 1 ≤ 140737488355328) (hbytes : (n + 1) * bytes ≤ 140737488355328) (hbase : base ≤ w0.heap.size)
    (h : ∀ v' w', w'.ownsRow base e size v' (n + 1) (xs ++ news) → w0.grownBy w' v.ownBlock → Below base w0 w' → w0.heap.size < w'.heap.size → wpList P ops Q rest (a.put o.dst v') w') :
    wpList P ops Q (o :: rest) a (w0.alloc (.cells news.toArray e)) := by
  refine wpList_append_own _ hgd s x t ho base e i z size bytes ht hi hz hsize hby hzs hsz v n xs hs (hown.alloc _) ⟨w0.heap.size, 0, none⟩ 1 1 news hx (by omega)
    (cells_new w0 news e) h1 (by unfold maxLen; omega) hbytes (by simp; omega) ?_
  intro v' w' h2 h3 _
  have hsz' := h3.size
  simp only [World.size_alloc] at hsz'
  refine h v' w' h2 ⟨h3.os, h3.tape, h3.output, by omega, fun k hk hr => ?_⟩ ?_ (by omega)
  · rw [h3.block k (by simp; omega) hr]; exact Go.heap_alloc_old w0 _ hk
  · exact ((Below.refl base w0).alloc hbase _).grown h3 (by simp; omega) (fun k hk => (hown.lt k hk).1)

/-- The cells of a slice that starts at address a, as far as they are told. -/
def CellsAt (w : World) (a : Option Addr) (cs : List Value) : Prop :=
  ∀ j u, cs[j]? = some u → ∃ b o, a = some ⟨b, o, none⟩ ∧ w.cell? ⟨b, o + j, none⟩ = some u
/-- A slice of n elements whose cells are cs. -/
def Sl (w : World) (v : Value) (n : Nat) (cs : List Value) : Prop :=
  ∃ a c, v = .slice a n c ∧ n ≤ 140737488355328 ∧ n ≤ c ∧ CellsAt w a cs

theorem CellsAt.ext {w w' : World} (h : Ext w w') {a : Option Addr} {cs : List Value} (hc : CellsAt w a cs) : CellsAt w' a cs := by
  intro j u hj
  obtain ⟨b, o, ha, hcell⟩ := hc j u hj
  exact ⟨b, o, ha, h.cell hcell⟩
theorem Sl.ext {w w' : World} (h : Ext w w') {v : Value} {n : Nat} {cs : List Value} (hc : Sl w v n cs) : Sl w' v n cs := by
  obtain ⟨a, c, hv, hn, hnc, h2⟩ := hc
  exact ⟨a, c, hv, hn, hnc, h2.ext h⟩
theorem Sl.nil (w : World) : Sl w (.slice none 0 0) 0 [] := ⟨none, 0, rfl, by decide, by decide, fun j u h => by simp at h⟩
theorem Sl.new (w : World) (cs : List Value) (e : TypeId) (b n c : Nat) (hb : b = w.heap.size) (hn : n ≤ 140737488355328) (hc : n ≤ c) : Sl (w.alloc (.cells cs.toArray e)) (.slice (some ⟨b, 0, none⟩) n c) n cs := by
  subst hb
  refine ⟨_, c, rfl, hn, hc, fun j u hj => ⟨_, 0, rfl, ?_⟩⟩
  rw [Nat.zero_add, World.cell?_alloc_new]
  simpa using hj
theorem Sl.owns {w : World} {base : Nat} {e : TypeId} {size : Nat} {v : Value} {n : Nat} {xs : List Value} (h : w.ownsRow base e size v n xs) (hn : n ≤ 140737488355328) : Sl w v n xs := by
  rcases h.2 with ⟨rfl, rfl⟩ | ⟨g, cap, cur, rfl, hb, hg, hnc, hcm, hcs, htake⟩
  · exact ⟨none, 0, rfl, by decide, by decide, fun j u hj => by have := h.1; simp at this; subst this; simp at hj⟩
  · refine ⟨some ⟨g, 0, none⟩, cap, rfl, hn, hnc, fun j u hj => ⟨g, 0, rfl, ?_⟩⟩
    have := h.cells (g := g) rfl j u hj
    have hadd : (⟨g, 0, none⟩ : Addr).add j = ⟨g, j, none⟩ := by unfold Addr.add; split <;> simp_all
    rw [hadd] at this
    rw [Nat.zero_add]; exact this

theorem run_max_int {P : Program} (ats : Array TypeId) (ty : TypeId) (k : IntKind) (x y : Int) (w : World) :
    (Builtin.max_ ats ty #[.int k x, .int k y]).run P w = .ok (.int k (max x y)) w := by
  have e : (if y > x then y else x) = max x y := by split <;> omega
  rw [← e]; rfl
theorem run_min_int {P : Program} (ats : Array TypeId) (ty : TypeId) (k : IntKind) (x y : Int) (w : World) :
    (Builtin.min_ ats ty #[.int k x, .int k y]).run P w = .ok (.int k (min x y)) w := by
  have e : (if y < x then y else x) = min x y := by split <;> omega
  rw [← e]; rfl
attribute [go_sem ↓] run_max_int run_min_int

theorem wf_u64 {a : Int} (h : (Lit.int .u64 a).wf = true) : 0 ≤ a ∧ a < 18446744073709551616 := by
  simp [Lit.wf, IntKind.min, IntKind.max, IntKind.signed, IntKind.bits] at h; omega
theorem wf_u32 {a : Int} (h : (Lit.int .u32 a).wf = true) : 0 ≤ a ∧ a < 4294967296 := by
  simp [Lit.wf, IntKind.min, IntKind.max, IntKind.signed, IntKind.bits] at h; omega
theorem wf_u8 {a : Int} (h : (Lit.int .u8 a).wf = true) : 0 ≤ a ∧ a ≤ 255 := by
  simp [Lit.wf, IntKind.min, IntKind.max, IntKind.signed, IntKind.bits] at h; omega
theorem wf_i64 {a : Int} (h : (Lit.int .i64 a).wf = true) : -9223372036854775808 ≤ a ∧ a ≤ 9223372036854775807 := by
  simp [Lit.wf, IntKind.min, IntKind.max, IntKind.signed, IntKind.bits] at h; omega

/-- A slice of numbers that came in: its numbers, as far as it is long. -/
def IntsArg (k : IntKind) (w : World) (v : Value) : Prop :=
  ∃ (a : Option Addr) (n c : Nat) (zs : List Int), v = .slice a n c ∧ zs.length = n ∧ n ≤ c ∧ c ≤ 9223372036854775807 ∧ (∀ z ∈ zs, (Lit.int k z).wf = true) ∧ CellsAt w a (zs.map (Value.int k))

theorem cellsAt_of {w : World} {x : Addr} {cs : List Value} (h : ∀ j u, cs[j]? = some u → w.cell? (x.add j) = some u) : CellsAt w (some x) cs := by
  intro j u hj
  have h0 : ∃ u0, cs[0]? = some u0 := by
    have : j < cs.length := (List.getElem?_eq_some_iff.1 hj).1
    exact ⟨cs[0], by simp⟩
  obtain ⟨u0, hu0⟩ := h0
  have e0 := h 0 u0 hu0
  have ej := h j u hj
  obtain ⟨b, o, s⟩ := x
  have hs : s = none := by
    unfold Addr.add at e0
    simp [World.cell?] at e0
    split at e0 <;> simp_all
  subst hs
  refine ⟨b, o, rfl, ?_⟩
  have hadd : (⟨b, o, none⟩ : Addr).add j = ⟨b, o + j, none⟩ := by unfold Addr.add; split <;> simp_all
  rw [hadd] at ej
  exact ej

theorem open_ints_arg {P : Program} {H : Type} {enc : TypeId × Value → H} {t e : TypeId} {k : IntKind} {base : Nat} {W : World} {v : Value} {d : DataW H} {p : List MemPlace}
    (ht : P.underlying t = some (.slice e)) (he : P.underlying e = some (.int k)) (hc : P.cellsOf e = 1)
    (ho : Value.okWide P W .any base t v) (h : DataW.Trod enc P W 0 (fun _ => true) true t v d p) : IntsArg k W v := by
  obtain ⟨a0, len0, cap0, rfl⟩ := WideShapes.okWide_slice ht ho
  obtain ⟨fuel, hf⟩ := h
  rcases ChangeShapes.open_ints ht he hc hf with ⟨hcs, _⟩ | ⟨x, l, c, zs, hcs, _, hl, hm, hz, _, hcell, hwz⟩
  · simp [Value.cells] at hcs
    obtain ⟨rfl, rfl, rfl⟩ := hcs
    exact ⟨none, 0, 0, [], rfl, rfl, Nat.le_refl _, by decide, by simp, fun j u hj => by simp at hj⟩
  · simp [Value.cells] at hcs
    obtain ⟨rfl, rfl, rfl⟩ := hcs
    have hz' : zs.length = cap0 := by simpa using hz
    refine ⟨some x, len0, cap0, zs.take len0, rfl, by simp; omega, hl, by unfold maxLen at hm; omega, fun z hzm => hwz z (List.mem_of_mem_take hzm), cellsAt_of fun j u hj => ?_⟩
    have hj' : j < len0 ∧ j < zs.length := by
      have := (List.getElem?_eq_some_iff.1 hj).1; simp at this; omega
    have e := hcell j hj'.2
    rw [e]
    simp only [List.getElem?_map, List.getElem?_take, hj'.1, if_true, List.getElem?_eq_getElem hj'.2, Option.map_some] at hj
    rw [← hj, List.getD_eq_getElem?_getD, List.getElem?_eq_getElem hj'.2]; rfl
end Go.Proofs.Ytnblbneehogadaa
