import Derived.Test.YtnblbneehogadaaH13
/- The law's known. -/
namespace Go.Proofs.Ytnblbneehogadaa
open Go.RowKit Go.ChangeMaps
def nv : Nat := 18446744073709551615
def k1 : CoreT := (4, ⟨#[97, 98]⟩, [97, 98], 1, 18446744073709551615, 0)
def k2 : CoreT := (1, ⟨#[98]⟩, [98], 2, 5, 5)
def k3 : CoreT := (1, ⟨#[97]⟩, [97], 2, 5, 5)
def k4 : CoreT := (4, ⟨#[97, 99]⟩, [97, 99], 1, 18446744073709551615, 0)
def k5' : CoreT := (4, ⟨#[99]⟩, [99], 1, 18446744073709551615, 0)
def mdA (st : WtB CoreT) : WMd := ⟨⟨#[97]⟩, [], 2, false, st⟩
def mdB (st : WtB CoreT) : WMd := ⟨⟨#[]⟩, [4], 1, true, st⟩
theorem known_pubs : pubsA [(0, mdA ⟨[], 0⟩), (1, mdB ⟨[], 0⟩)] [k1, k2, k3, k4, k5'] = [(0, mdA ⟨[k1, k3], 1⟩), (1, mdB ⟨[k5'], 2⟩)] := by rfl
theorem known_gots : gotsA [(0, mdA ⟨[], 0⟩), (1, mdB ⟨[], 0⟩)] [k1, k2, k3, k4, k5'] = 5 := by rfl
theorem abs_two {L : List (Int × WtX)} {a b : Int} {m n : WMd} (h : absL L = [(a, m), (b, n)]) : ∃ x y, L = [(a, x), (b, y)] ∧ x.md = m ∧ y.md = n := by
  match L, h with
  | [(a', x), (b', y)], h =>
    simp only [absL, List.map_cons, List.map_nil, List.cons.injEq, Prod.mk.injEq, and_true] at h
    obtain ⟨⟨rfl, h1⟩, rfl, h2⟩ := h
    exact ⟨x, y, rfl, h1, h2⟩
  | [], h => simp [absL] at h
  | [_], h => simp [absL] at h
  | _ :: _ :: _ :: _, h => simp [absL] at h
theorem one_cell {w : World} {K : Nat} {a : Int} {T : TypeId} (h : w.heap[K]? = some (.cells #[.int .i64 a] T (0, 0))) : CellsAt w (some ⟨K, 0, none⟩) ([a].map (Value.int .i64)) := fun j u hj => by
  cases j with
  | zero => cases hj; exact ⟨K, 0, rfl, by rw [Lib.cell_of_heap h]; rfl⟩
  | succ j => simp at hj
def evX (k : Int) (s : ByteArray) (u : Value) (l : List UInt8) (b d t : Nat) : EvX := ⟨k, s, u, l, b, d, t⟩
def zRule : Array Value := #[.string ⟨#[]⟩, .slice none 0 0, .int .i64 0, .bool false]
def X1 (b d : Nat) : EvX := evX 4 ⟨#[97, 98]⟩ (.slice (some ⟨b, 0, none⟩) 2 d) [97, 98] 1 18446744073709551615 0
def X2 (b d : Nat) : EvX := evX 1 ⟨#[98]⟩ (.slice (some ⟨b, 0, none⟩) 1 d) [98] 2 5 5
def X3 (b d : Nat) : EvX := evX 1 ⟨#[97]⟩ (.slice (some ⟨b, 0, none⟩) 1 d) [97] 2 5 5
def X4 (b d : Nat) : EvX := evX 4 ⟨#[97, 99]⟩ (.slice (some ⟨b, 0, none⟩) 2 d) [97, 99] 1 18446744073709551615 0
def X5 (b d : Nat) : EvX := evX 4 ⟨#[99]⟩ (.slice (some ⟨b, 0, none⟩) 1 d) [99] 1 18446744073709551615 0
theorem in_of (k : Int) (s : ByteArray) (u : Value) (l : List UInt8) (b d t : Nat) (h1 : s.size ≤ 100000) (h2 : l.length ≤ 100000) (h3 : b < 18446744073709551616) (h4 : d < 18446744073709551616) (h5 : t < 18446744073709551616) : (evX k s u l b d t).In := ⟨h1, h2, h3, h4, h5⟩
theorem X1_at {w : World} {b d : Nat} (h : By w (.slice (some ⟨b, 0, none⟩) 2 d) [97, 98]) : (X1 b d).At w := ⟨in_of 4 ⟨#[97, 98]⟩ _ [97, 98] 1 18446744073709551615 0 (by decide) (by decide) (by decide) (by decide) (by decide), ⟨_, _, rfl⟩, h⟩
theorem X2_at {w : World} {b d : Nat} (h : By w (.slice (some ⟨b, 0, none⟩) 1 d) [98]) : (X2 b d).At w := ⟨in_of 1 ⟨#[98]⟩ _ [98] 2 5 5 (by decide) (by decide) (by decide) (by decide) (by decide), ⟨_, _, rfl⟩, h⟩
theorem X3_at {w : World} {b d : Nat} (h : By w (.slice (some ⟨b, 0, none⟩) 1 d) [97]) : (X3 b d).At w := ⟨in_of 1 ⟨#[97]⟩ _ [97] 2 5 5 (by decide) (by decide) (by decide) (by decide) (by decide), ⟨_, _, rfl⟩, h⟩
theorem X4_at {w : World} {b d : Nat} (h : By w (.slice (some ⟨b, 0, none⟩) 2 d) [97, 99]) : (X4 b d).At w := ⟨in_of 4 ⟨#[97, 99]⟩ _ [97, 99] 1 18446744073709551615 0 (by decide) (by decide) (by decide) (by decide) (by decide), ⟨_, _, rfl⟩, h⟩
theorem X5_at {w : World} {b d : Nat} (h : By w (.slice (some ⟨b, 0, none⟩) 1 d) [99]) : (X5 b d).At w := ⟨in_of 4 ⟨#[99]⟩ _ [99] 1 18446744073709551615 0 (by decide) (by decide) (by decide) (by decide) (by decide), ⟨_, _, rfl⟩, h⟩
theorem keepa {W1 : World} {o1 : Obj} {B o : Nat} {v : Value} (h : W1.cell? ⟨B, o, none⟩ = some v) : (W1.alloc o1).cell? ⟨B, o, none⟩ = some v := Ext.cell (Ext.alloc (Below.refl _ W1) o1) h
theorem xs_new (w : World) (M : List EvX) (hn : M.length ≤ 1048576) (hat : ∀ y ∈ M, y.At w) : Xs (w.alloc (.cells (xs M).toArray 30)) (.slice (some ⟨w.heap.size, 0, none⟩) M.length M.length) M := by
  refine ⟨_, _, rfl, hn, Nat.le_refl _, fun j u hj => ⟨w.heap.size, 0, rfl, ?_⟩, fun y hy => (hat y hy).ext (Ext.alloc (Below.refl _ _) _)⟩
  rw [Lib.cell_of_heap (newblk w _), Nat.zero_add]
  simpa using hj
theorem xs_keep {w : World} {Q : Nat → Prop} {M : List EvX} (hn : M.length ≤ 1048576) (hat : ∀ y ∈ M, y.At w) (hu : ∀ y ∈ M, ∀ b, y.u.ownBlock = some b → b < w.heap.size ∧ ¬ Q b) (hq : ∀ b, Q b → b < w.heap.size) :
    ∀ w', Mut Q (w.alloc (.cells (xs M).toArray 30)) w' → Xs w' (.slice (some ⟨w.heap.size, 0, none⟩) M.length M.length) M := fun w' hM =>
  (xs_new w M hn hat).mut hM (fun b o e hb => by
    simp only [Option.some.injEq, Addr.mk.injEq] at e
    obtain ⟨rfl, -, -⟩ := e
    exact Nat.lt_irrefl _ (hq _ hb)) (fun y hy b hb => ⟨by have := (hu y hy b hb).1; simp; omega, (hu y hy b hb).2⟩)
theorem kpub {base : Nat} {w5 w : World} {H : Nat} {mo : Option Nat} {L : List (Int × WtX)} (h : HubOk base w5 H mo L) (hL : absL L = [(0, mdA ⟨[], 0⟩), (1, mdB ⟨[], 0⟩)]) (hx : Ext w5 w) (hb : base ≤ w5.heap.size) (M : List EvX) (hat : ∀ y ∈ M, y.At w) (hu : ∀ y ∈ M, ∀ b, y.u.ownBlock = some b → w5.heap.size ≤ b ∧ b < w.heap.size) (hM : M.map EvX.core = [k1, k2, k3, k4, k5']) (hok : allOk M = true) :
    Calls Try.prog 13 #[.pointer (some ⟨H, 0, none⟩), .slice (some ⟨w.heap.size, 0, none⟩) M.length M.length] (w.alloc (.cells (xs M).toArray 30)) fun e w' => e = .returned (.tuple #[.int .i64 5, .int .i64 0]) ∧ ∃ x y, HubOk base w' H mo [(0, x), (1, y)] ∧ x.md = mdA ⟨[k1, k3], 1⟩ ∧ y.md = mdB ⟨[k5'], 2⟩ ∧ Mut (fun j => j ∈ fpL L) (w.alloc (.cells (xs M).toArray 30)) w' ∧ ∀ b ∈ fpL [((0 : Int), x), (1, y)], b < w5.heap.size ∨ w.heap.size < b := by
  have hx2 : Ext w5 (w.alloc (.cells (xs M).toArray 30)) := Ext.alloc hx _
  have hlen : L.length = 2 := by
    have := congrArg List.length hL
    unfold absL at this
    simpa using this
  have hMl : M.length = 5 := by
    have := congrArg List.length hM
    simpa using this
  have hlow : ∀ b ∈ fpL L, b < w5.heap.size := fun b hb => (h.types hb).2.1
  have hlost : ∀ p ∈ L, p.2.lost ≤ 2305843009213693952 := fun p hp => by
    have h1 : (p.1, p.2.md) ∈ absL L := List.mem_map.2 ⟨p, hp, rfl⟩
    rw [hL] at h1
    have h2 : p.2.md.st.lost = 0 := by
      simp only [List.mem_cons, List.not_mem_nil, or_false, Prod.mk.injEq] at h1
      rcases h1 with ⟨_, h1⟩ | ⟨_, h1⟩
      · rw [h1]; rfl
      · rw [h1]; rfl
    have h3 : p.2.lost = 0 := h2
    omega
  refine (publish_any (h.ext hx2) _ M (xs_keep (by omega) hat (fun y hy b hb => ⟨(hu y hy b hb).2, fun hq => by have := hlow b hq; have := (hu y hy b hb).1; omega⟩) (fun b hq => Nat.lt_of_lt_of_le (hlow b hq) hx.size)) hok (by omega) (by omega) hlost (Nat.le_trans hb hx2.size)).mono ?_
  rintro e w' ⟨he, L', g1, g2, g3, g4, g5⟩
  rw [hM, hL] at he g2
  rw [known_gots] at he
  rw [known_pubs] at g2
  obtain ⟨x, y, rfl, hx1, hy1⟩ := abs_two g2
  refine ⟨he, x, y, g1, hx1, hy1, g4, fun b hb => ?_⟩
  rcases g5 b hb with h1 | h1
  · exact Or.inl (hlow b h1)
  · right; simp at h1; omega
theorem ktake {base : Nat} {w : World} {H : Nat} {mo : Option Nat} {L : List (Int × WtX)} (h : HubOk base w H mo L) {j : Nat} {id : Int} {x : WtX} (hj : L[j]? = some (id, x)) (k : Nat) (hk : k ≤ 9223372036854775807) (M : List EvX) (hat : ∀ y ∈ M, y.At w) (hu : ∀ y ∈ M, ∀ b, y.u.ownBlock = some b → b < w.heap.size ∧ b ∉ x.fp) (hw : x.wait = M.map EvX.core) (hm : M.length ≤ k) :
    Calls Try.prog 30 #[.pointer (some ⟨H, 0, none⟩), .int .i64 id, .int .i64 (k : Nat), .slice (some ⟨w.heap.size, 0, none⟩) M.length M.length] (w.alloc (.cells (xs M).toArray 30)) (TksPost base (w.alloc (.cells (xs M).toArray 30)) H mo L j id x M.length) := by
  have hx2 : Ext w (w.alloc (.cells (xs M).toArray 30)) := Ext.alloc (Below.refl _ _) _
  have hx := h.oks (id, x) (List.mem_of_getElem? hj)
  have hxm : x.m = M.length := by
    have h1 := congrArg List.length hw
    have h2 := wait_len x
    rw [List.length_map] at h1
    omega
  have hm1 : x.m ≤ 1000 := by
    have h1 := hx.mle; have h2 := hx.fit; have h3 := hx.room2
    have h1' : x.m ≤ x.R.length := h1
    have h2' : x.R.length ≤ x.room := h2
    have h3' : x.room ≤ 1000 := h3
    omega
  exact takes_any (h.ext hx2) hj k hk _ M (xs_keep (by omega) hat hu (fun b hb => (hx.types hb).2.1)) (by omega) (by rw [hw, List.take_of_length_le (by simp)])
theorem two_cell (w : World) : CellsAt (w.alloc (.cells #[.int .i64 4, .int .i64 4] 25)) (some ⟨w.heap.size, 0, none⟩) (([4, 4] : List Int).map (Value.int .i64)) := fun j u hj => by
  refine ⟨w.heap.size, 0, rfl, ?_⟩
  rw [Lib.cell_of_heap (newblk w _), Nat.zero_add]
  simpa using hj
theorem take_c {W w : World} {H : Nat} {mo : Option Nat} {L : List (Int × WtX)} (h : HubOk W.heap.size w H mo L) {j : Nat} {id : Int} {x : WtX} (hj : L[j]? = some (id, x)) (M : List EvX) (hat : ∀ y ∈ M, y.At w) (hu : ∀ y ∈ M, ∀ b, y.u.ownBlock = some b → b < w.heap.size ∧ b ∉ x.fp) {pre : ByteArray} {ks : List Int} {room n : Nat} {old : Bool} (hw : x.md = ⟨pre, ks, room, old, ⟨M.map EvX.core, n⟩⟩) (hm : M.length ≤ 9) (hx : Ext W w) :
    Calls Try.prog 30 #[.pointer (some ⟨H, 0, none⟩), .int .i64 id, .int .i64 9, .slice (some ⟨w.heap.size, 0, none⟩) M.length M.length] (w.alloc (.cells (xs M).toArray 30)) fun e w' => e = .returned (.bool true) ∧ ∃ x', HubOk W.heap.size w' H mo (L.set j (id, x')) ∧ x'.m = 0 ∧ x'.lost = n ∧ Ext W w' := by
  have hw1 : x.wait = M.map EvX.core := congrArg (fun m => m.st.wait) hw
  have hw2 : x.lost = n := congrArg (fun m => m.st.lost) hw
  refine (ktake h hj 9 (by decide) M hat hu hw1 hm).mono ?_
  rintro e w' ⟨he, x', g1, g2, g3, g4, g5, g6⟩
  have h1 : x'.wait = x.wait.drop M.length := congrArg (fun m => m.st.wait) g2
  have h2 : x'.lost = x.lost := congrArg (fun m => m.st.lost) g2
  refine ⟨he, x', g1, ?_, h2.trans hw2, g5.ext W (Ext.alloc hx _) (fun q hq => (h.types (fpL_mem.2 ⟨(id, x), List.mem_of_getElem? hj, hq⟩)).1)⟩
  rw [← wait_len, h1, hw1]
  simp
theorem pub_case {base : Nat} {w5 wE w9 w10 : World} {H mb B0 B1 b1 b2 b3 b4 b5 d1 d2 d3 d4 d5 : Nat} {kv0 kv1 : Value} (h : HubOk base w5 H (some mb) [((0 : Int), newW B0 ⟨#[97]⟩ kv0 [] 2 false), ((1 : Int), newW B1 ⟨#[]⟩ kv1 [4] 1 true)]) (hb : base ≤ w5.heap.size) (hx8 : Ext w5 wE) (hx9 : Ext wE w9) (hx10 : Ext w9 w10)
    (hbl : (w5.heap.size ≤ b1 ∧ b1 < wE.heap.size) ∧ (w5.heap.size ≤ b2 ∧ b2 < wE.heap.size) ∧ (w5.heap.size ≤ b3 ∧ b3 < wE.heap.size)) (g7 : wE.heap.size ≤ b4) (g8 : b4 < w9.heap.size) (g9 : w9.heap.size ≤ b5) (g10 : b5 < w10.heap.size)
    (y1 : By wE (.slice (some ⟨b1, 0, none⟩) 2 d1) [97, 98]) (y2 : By wE (.slice (some ⟨b2, 0, none⟩) 1 d2) [98]) (y3 : By wE (.slice (some ⟨b3, 0, none⟩) 1 d3) [97]) (y4 : By w9 (.slice (some ⟨b4, 0, none⟩) 2 d4) [97, 99]) (y5 : By w10 (.slice (some ⟨b5, 0, none⟩) 1 d5) [99]) :
    Calls Try.prog 13 #[.pointer (some ⟨H, 0, none⟩), .slice (some ⟨w10.heap.size, 0, none⟩) 5 5] (w10.alloc (.cells #[.int .i64 4, .string ⟨#[97, 98]⟩, .slice (some ⟨b1, 0, none⟩) 2 d1, .int .u64 1, .int .u64 18446744073709551615, .int .u64 0, .int .i64 1, .string ⟨#[98]⟩, .slice (some ⟨b2, 0, none⟩) 1 d2, .int .u64 2, .int .u64 5, .int .u64 5, .int .i64 1, .string ⟨#[97]⟩, .slice (some ⟨b3, 0, none⟩) 1 d3, .int .u64 2, .int .u64 5, .int .u64 5, .int .i64 4, .string ⟨#[97, 99]⟩, .slice (some ⟨b4, 0, none⟩) 2 d4, .int .u64 1, .int .u64 18446744073709551615, .int .u64 0, .int .i64 4, .string ⟨#[99]⟩, .slice (some ⟨b5, 0, none⟩) 1 d5, .int .u64 1, .int .u64 18446744073709551615, .int .u64 0] 30)) fun e w' => e = .returned (.tuple #[.int .i64 5, .int .i64 0]) ∧ ∃ x y, HubOk base w' H (some mb) [(0, x), (1, y)] ∧ x.md = mdA ⟨[k1, k3], 1⟩ ∧ y.md = mdB ⟨[k5'], 2⟩ ∧ Mut (fun j => j ∈ fpL [((0 : Int), newW B0 ⟨#[97]⟩ kv0 [] 2 false), ((1 : Int), newW B1 ⟨#[]⟩ kv1 [4] 1 true)]) (w10.alloc (.cells #[.int .i64 4, .string ⟨#[97, 98]⟩, .slice (some ⟨b1, 0, none⟩) 2 d1, .int .u64 1, .int .u64 18446744073709551615, .int .u64 0, .int .i64 1, .string ⟨#[98]⟩, .slice (some ⟨b2, 0, none⟩) 1 d2, .int .u64 2, .int .u64 5, .int .u64 5, .int .i64 1, .string ⟨#[97]⟩, .slice (some ⟨b3, 0, none⟩) 1 d3, .int .u64 2, .int .u64 5, .int .u64 5, .int .i64 4, .string ⟨#[97, 99]⟩, .slice (some ⟨b4, 0, none⟩) 2 d4, .int .u64 1, .int .u64 18446744073709551615, .int .u64 0, .int .i64 4, .string ⟨#[99]⟩, .slice (some ⟨b5, 0, none⟩) 1 d5, .int .u64 1, .int .u64 18446744073709551615, .int .u64 0] 30)) w' ∧ ∀ b ∈ fpL [((0 : Int), x), (1, y)], b < w5.heap.size ∨ w10.heap.size < b := by
  have s1 := hx8.size
  have s2 := hx9.size
  have s3 := hx10.size
  have hat : ∀ y ∈ [X1 b1 d1, X2 b2 d2, X3 b3 d3, X4 b4 d4, X5 b5 d5], y.At w10 := fun y hy => by
    simp only [List.mem_cons, List.not_mem_nil, or_false] at hy
    rcases hy with rfl | rfl | rfl | rfl | rfl
    · exact (X1_at y1).ext (Ext.trans' hx9 hx10)
    · exact (X2_at y2).ext (Ext.trans' hx9 hx10)
    · exact (X3_at y3).ext (Ext.trans' hx9 hx10)
    · exact (X4_at y4).ext hx10
    · exact X5_at y5
  have hu : ∀ y ∈ [X1 b1 d1, X2 b2 d2, X3 b3 d3, X4 b4 d4, X5 b5 d5], ∀ b, y.u.ownBlock = some b → w5.heap.size ≤ b ∧ b < w10.heap.size := fun y hy b hb => by
    simp only [List.mem_cons, List.not_mem_nil, or_false] at hy
    rcases hy with rfl | rfl | rfl | rfl | rfl
    · cases hb; exact (show w5.heap.size ≤ b1 ∧ b1 < w10.heap.size by omega)
    · cases hb; exact (show w5.heap.size ≤ b2 ∧ b2 < w10.heap.size by omega)
    · cases hb; exact (show w5.heap.size ≤ b3 ∧ b3 < w10.heap.size by omega)
    · cases hb; exact (show w5.heap.size ≤ b4 ∧ b4 < w10.heap.size by omega)
    · cases hb; exact (show w5.heap.size ≤ b5 ∧ b5 < w10.heap.size by omega)
  exact kpub h rfl (Ext.trans' hx8 (Ext.trans' hx9 hx10)) hb [X1 b1 d1, X2 b2 d2, X3 b3 d3, X4 b4 d4, X5 b5 d5] hat hu rfl (by rfl)
end Go.Proofs.Ytnblbneehogadaa
