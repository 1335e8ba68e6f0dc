import Derived.Test.YtbhfpofcebepiaaB12
import Derived.Handy
/- The contract of belady.Best. -/
namespace Go.Proofs.Ytbhfpofcebepiaa
open Go.RowKit Go.ChangeMaps
theorem KeepB.ext {B : Nat} {w w' : World} (h : KeepB B w w') (hB : w.heap.size ≤ B) : Ext w w' := ⟨h.os, h.tape, h.output, h.size, fun j hj => h.block j hj (by omega)⟩
theorem Ext.keepB {B : Nat} {w a b : World} (h : Ext w a) (k : KeepB B a b) (hB : w.heap.size ≤ B) : Ext w b :=
  ⟨k.os.trans h.os, k.tape.trans h.tape, k.output.trans h.output, Nat.le_trans h.size k.size, fun j hj => (k.block j (Nat.lt_of_lt_of_le hj h.size) (by omega)).trans (h.block j hj)⟩
theorem CellsAt.keep {w w' : World} (hb : Ext w w') {a : Option Addr} {cs : List Value} (hc : CellsAt w a cs) : CellsAt w' a cs := by
  intro j u hj
  obtain ⟨b, o, ha, hcell⟩ := hc j u hj
  exact ⟨b, o, ha, Ext.cell hb hcell⟩
/-- Between two keys of the loop that gives them numbers. -/
structure NumR (a : Option Addr) (n c : Nat) (size : Int) (D : List Nat) (w wr : World) : Prop where
  ext : Ext w wr
  t : wr.heap[w.heap.size]? = some (.cells #[.slice a n c] 22 (0, 0))
  s : wr.heap[w.heap.size + 1]? = some (.cells #[.int .i64 size] 3 (0, 0))
  m : wr.heap[w.heap.size + 1 + 1 + 1]? = some (.cells #[.map (some (w.heap.size + 1 + 1))] 56 (0, 0))
  num : NumAt wr (w.heap.size + 1 + 1) D
theorem NumR.put {a : Option Addr} {n c : Nat} {size : Int} {D D' : List Nat} {w wr : World} {o : Obj} (h : NumR a n c size D w wr) (hn : NumAt (setBlock wr (w.heap.size + 1 + 1) o) (w.heap.size + 1 + 1) D') : NumR a n c size D' w (setBlock wr (w.heap.size + 1 + 1) o) := by
  have k := KeepB.set (B := w.heap.size + 1 + 1) wr o
  have lt := fun j (u : Obj) (e : wr.heap[j]? = some u) => (Array.getElem?_eq_some_iff.1 e).1
  exact ⟨⟨h.ext.os, h.ext.tape, h.ext.output, Nat.le_trans h.ext.size k.size, fun j hj => (k.block j (Nat.lt_of_lt_of_le hj h.ext.size) (by omega)).trans (h.ext.block j hj)⟩,
    (k.block _ (lt _ _ h.t) (by omega)).trans h.t, (k.block _ (lt _ _ h.s) (by omega)).trans h.s, (k.block _ (lt _ _ h.m) (by omega)).trans h.m, hn⟩
theorem setD_zero (D : List Nat) : setD D 0 = [] := by
  unfold setD
  simp
/-- What the closure finds at its first call. -/
theorem best_first {a : Option Addr} {c : Nat} {L : List Nat} {size : Nat} {w wr : World} (hR : NumR a L.length c (size : Nat) (keysD L L.length) w wr) (hC : CellsAt w a (u32L L)) :
    BestW L size (keysD L L.length) w.heap.size (wr.heap.size + 1) (w.heap.size + 1 + 1 + 1) (wr.heap.size + 1 + 1) (w.heap.size + 1) wr.heap.size (w.heap.size + 1 + 1) (((wr.alloc (.map #[] 0)).alloc (.cells #[.map (some wr.heap.size)] 75)).alloc (.cells #[(.func (.func 42) #[] #[.pointer (some ⟨w.heap.size, 0, none⟩), .pointer (some ⟨wr.heap.size + 1, 0, none⟩), .pointer (some ⟨w.heap.size + 1 + 1 + 1, 0, none⟩), .pointer (some ⟨wr.heap.size + 1 + 1, 0, none⟩), .pointer (some ⟨w.heap.size + 1, 0, none⟩)])] 76)) := by
  have hx : Ext wr (((wr.alloc (.map #[] 0)).alloc (.cells #[.map (some wr.heap.size)] 75)).alloc (.cells #[(.func (.func 42) #[] #[.pointer (some ⟨w.heap.size, 0, none⟩), .pointer (some ⟨wr.heap.size + 1, 0, none⟩), .pointer (some ⟨w.heap.size + 1 + 1 + 1, 0, none⟩), .pointer (some ⟨wr.heap.size + 1 + 1, 0, none⟩), .pointer (some ⟨w.heap.size + 1, 0, none⟩)])] 76)) := Ext.alloc (Ext.alloc (Ext.alloc (Below.refl _ _) _) _) _
  have hk : (((wr.alloc (.map #[] 0)).alloc (.cells #[.map (some wr.heap.size)] 75)).alloc (.cells #[(.func (.func 42) #[] #[.pointer (some ⟨w.heap.size, 0, none⟩), .pointer (some ⟨wr.heap.size + 1, 0, none⟩), .pointer (some ⟨w.heap.size + 1 + 1 + 1, 0, none⟩), .pointer (some ⟨wr.heap.size + 1 + 1, 0, none⟩), .pointer (some ⟨w.heap.size + 1, 0, none⟩)])] 76)).heap[wr.heap.size]? = some (.map #[] 0) := by
    exact ((Ext.alloc (Ext.alloc (Below.refl _ _) _) _ : Ext (wr.alloc _) _).block wr.heap.size (by simp)).trans (heap_alloc_new wr _)
  have hk1 : (((wr.alloc (.map #[] 0)).alloc (.cells #[.map (some wr.heap.size)] 75)).alloc (.cells #[(.func (.func 42) #[] #[.pointer (some ⟨w.heap.size, 0, none⟩), .pointer (some ⟨wr.heap.size + 1, 0, none⟩), .pointer (some ⟨w.heap.size + 1 + 1 + 1, 0, none⟩), .pointer (some ⟨wr.heap.size + 1 + 1, 0, none⟩), .pointer (some ⟨w.heap.size + 1, 0, none⟩)])] 76)).heap[wr.heap.size + 1]? = some (.cells #[.map (some wr.heap.size)] 75 (0, 0)) := by
    have e0 := heap_alloc_new (wr.alloc (.map #[] 0)) (.cells #[.map (some wr.heap.size)] 75)
    rw [World.size_alloc] at e0
    exact ((Ext.alloc (Below.refl _ _) _ : Ext ((wr.alloc _).alloc _) _).block (wr.heap.size + 1) (by simp)).trans e0
  have hk2 : (((wr.alloc (.map #[] 0)).alloc (.cells #[.map (some wr.heap.size)] 75)).alloc (.cells #[(.func (.func 42) #[] #[.pointer (some ⟨w.heap.size, 0, none⟩), .pointer (some ⟨wr.heap.size + 1, 0, none⟩), .pointer (some ⟨w.heap.size + 1 + 1 + 1, 0, none⟩), .pointer (some ⟨wr.heap.size + 1 + 1, 0, none⟩), .pointer (some ⟨w.heap.size + 1, 0, none⟩)])] 76)).heap[wr.heap.size + 1 + 1]? = some (.cells #[(.func (.func 42) #[] #[.pointer (some ⟨w.heap.size, 0, none⟩), .pointer (some ⟨wr.heap.size + 1, 0, none⟩), .pointer (some ⟨w.heap.size + 1 + 1 + 1, 0, none⟩), .pointer (some ⟨wr.heap.size + 1 + 1, 0, none⟩), .pointer (some ⟨w.heap.size + 1, 0, none⟩)])] 76 (0, 0)) := by
    have e0 := heap_alloc_new ((wr.alloc (.map #[] 0)).alloc (.cells #[.map (some wr.heap.size)] 75)) (.cells #[(.func (.func 42) #[] #[.pointer (some ⟨w.heap.size, 0, none⟩), .pointer (some ⟨wr.heap.size + 1, 0, none⟩), .pointer (some ⟨w.heap.size + 1 + 1 + 1, 0, none⟩), .pointer (some ⟨wr.heap.size + 1 + 1, 0, none⟩), .pointer (some ⟨w.heap.size + 1, 0, none⟩)])] 76)
    rw [World.size_alloc, World.size_alloc] at e0
    exact e0
  refine ⟨⟨a, c, Ext.cell hx (by rw [Lib.cell_of_heap hR.t]; rfl), CellsAt.keep (hR.ext.trans' hx) hC⟩, ?_, Ext.cell hx (by rw [Lib.cell_of_heap hR.m]; rfl), ?_, Ext.cell hx (by rw [Lib.cell_of_heap hR.s]; rfl), hR.num.ext hx, ?_, #[], 0, hk, ?_⟩
  · rw [Lib.cell_of_heap hk1]; rfl
  · rw [Lib.cell_of_heap hk2]; rfl
  · have := (Array.getElem?_eq_some_iff.1 hR.m).1
    omega
  · intro e he
    cases he
set_option maxRecDepth 100000 in
set_option maxHeartbeats 4000000 in
theorem Best_bad (a : Option Addr) (n c : Nat) (size : Int) (w : World) (h : allB n 14 size ≠ 0) :
    Calls Try.prog 22 #[.slice a n c, .int .i64 size] w fun e w' => e = .returned (.tuple #[.int .i64 0, .int .i64 (allB n 14 size)]) ∧ Ext w w' := by
  have c1 : Box (∀ w, Calls Try.prog 29 #[.slice a n c, .int .i64 14, .int .i64 size] w fun e w' => e = .returned (.int .i64 (allB n 14 size)) ∧ w = w') := ⟨fun w => allowed_any a n c 14 size w⟩
  generalize allB n 14 size = e0 at *
  have n1 : (e0 != 0) = true := by simpa using h
  clear h
  go_enter Try.func22, Try.ntmps22
  go_wp2_with (first | (go_at_call 29; (with_reducible refine (c1.out _).mono ?_); rintro e w' ⟨rfl, rfl⟩))
  go_ret2
  exact ⟨rfl, by go_grown⟩
set_option maxRecDepth 100000 in
set_option maxHeartbeats 4000000 in
theorem Best_ok (a : Option Addr) (c : Nat) (L : List Nat) (size : Nat) (w : World) (hL : L.length ≤ 14) (h1 : 1 ≤ size) (h2 : size ≤ 1024) (hC : CellsAt w a (u32L L)) :
    Calls Try.prog 22 #[.slice a L.length c, .int .i64 (size : Nat)] w fun e w' => e = .returned (.tuple #[.int .i64 (optH L size L.length : Nat), .int .i64 0]) ∧ Ext w w' := by
  have hmf : ∀ (fn : Fn) (first cap : Array Value) (w : World), (Instr.makeFunc fn first cap).run Try.prog w = .ok (.func fn first cap) w := fun _ _ _ _ => rfl
  have hmm := @run_makeMap Try.prog
  have hsf : ∀ (w : World) (a : Addr) (fn : Fn) (f1 cap : Array Value) (m : Mode), (store a (.func fn f1 cap) m).run Try.prog w = stored Try.prog w a (.func fn f1 cap) m := fun w a fn f1 cap m => run_store Try.prog w a _ m rfl
  have c1 : Box (∀ w, Calls Try.prog 29 #[.slice a L.length c, .int .i64 14, .int .i64 (size : Nat)] w fun e w' => e = .returned (.int .i64 0) ∧ w = w') := ⟨fun w => by
    have := allowed_any a L.length c 14 size w
    rw [show allB L.length 14 size = 0 by unfold allB; rw [if_neg (by omega), if_neg (by omega)]] at this
    exact this⟩
  replace hC := Box.mk hC
  go_enter Try.func22, Try.ntmps22
  go_wp2_with (first | (go_at_call 29; (with_reducible refine (c1.out _).mono ?_); rintro e w' ⟨rfl, rfl⟩))
  go_loopw [23] (fun jv wr => ∃ t : Nat, t ≤ L.length ∧ jv = .int .i64 t ∧ Box (NumR a L.length c size (keysD L t) w wr)) (fun jv _ => L.length - (intOf jv).toNat)
  case atStart =>
    refine ⟨0, by omega, rfl, ⟨⟨Ext.alloc (Ext.alloc (Ext.alloc (Ext.alloc (Below.refl _ _) _) _) _) _, ?_, ?_, ?_, ?_⟩⟩⟩
    · exact ((Ext.alloc (Ext.alloc (Ext.alloc (Below.refl _ _) _) _) _ : Ext (w.alloc _) _).block w.heap.size (by simp)).trans (heap_alloc_new w _)
    · have e0 := heap_alloc_new (w.alloc (.cells #[.slice a L.length c] 22)) (.cells #[.int .i64 (size : Nat)] 3)
      rw [World.size_alloc] at e0
      exact ((Ext.alloc (Ext.alloc (Below.refl _ _) _) _ : Ext ((w.alloc _).alloc _) _).block (w.heap.size + 1) (by simp)).trans e0
    · have e0 := heap_alloc_new (((w.alloc (.cells #[.slice a L.length c] 22)).alloc (.cells #[.int .i64 (size : Nat)] 3)).alloc (.map #[] 0)) (.cells #[.map (some (w.heap.size + 1 + 1))] 56)
      rw [World.size_alloc, World.size_alloc, World.size_alloc] at e0
      exact e0
    · have e0 := heap_alloc_new ((w.alloc (.cells #[.slice a L.length c] 22)).alloc (.cells #[.int .i64 (size : Nat)] 3)) (.map #[] 0)
      rw [World.size_alloc, World.size_alloc] at e0
      exact ⟨#[], 0, ((Ext.alloc (Below.refl _ _) _ : Ext (((w.alloc _).alloc _).alloc _) _).block (w.heap.size + 1 + 1) (by simp)).trans e0, rfl⟩
  case round =>
    obtain ⟨t, ht, rfl, hR⟩ := hrel
    have q3 : wr.cell? ⟨w.heap.size + 1 + 1 + 1, 0, none⟩ = some (.map (some (w.heap.size + 1 + 1))) := by rw [Lib.cell_of_heap hR.out.m]; rfl
    by_cases htn : t < L.length
    · have n0 : (0 : Int) ≤ (t : Int) := by omega
      have n1 : (t : Int) < (L.length : Int) := by omega
      have n2 : decide ((t : Int) < (L.length : Int)) = true := decide_eq_true n1
      have n3 : decide (t < L.length) = true := decide_eq_true htn
      have n4 : IntKind.i64.wrap ((t : Int) + 1) = (t : Int) + 1 := b64_one (by omega)
      obtain ⟨b1, o1, rfl, hcell⟩ := CellsAt.keep hR.out.ext hC.out t _ (u32L_at htn)
      rw [keyB_get L t htn] at hcell
      have hks : keysD L (t + 1) = if keyB L t ∈ keysD L t then keysD L t else keysD L t ++ [keyB L t] := rfl
      have hlk := numLook2 hR.out.num (keyB L t)
      by_cases hx : keyB L t ∈ keysD L t
      · rw [if_pos hx] at hks
        rw [show decide (keyB L t ∈ keysD L t) = true from decide_eq_true hx] at hlk
        generalize (if keyB L t ∈ keysD L t then (keysD L t).idxOf (keyB L t) else 0) = v at *
        rw [← hks] at hR
        clear hks hx
        generalize keyB L t = x at *
        go_wp2_with (fail)
        go_roundw
        case rel => exact ⟨t + 1, by omega, by go_num, hR⟩
        case measure => simp [intOf]; omega
      · rw [if_neg hx] at hks
        rw [show decide (keyB L t ∈ keysD L t) = false from decide_eq_false hx] at hlk
        generalize (if keyB L t ∈ keysD L t then (keysD L t).idxOf (keyB L t) else 0) = v at *
        obtain ⟨w', hput, hN, o, hw'⟩ := numPut hR.out.num (keyB L t) hx
        rw [← hks] at hN
        subst hw'
        have hR2 := Box.mk (hR.out.put hN)
        obtain ⟨en, cn, hnm, hsz⟩ := numSize hR.out.num
        have hlen := run_len_map (w := wr) (P := Try.prog) 56 3 (w.heap.size + 1 + 1) en cn Try.underlying56 hnm
        rw [hsz] at hlen
        clear hN hks hx hnm hsz
        generalize keyB L t = x at *
        generalize (keysD L t).length = dl at *
        go_wp2_with (fail)
        go_roundw
        case rel => exact ⟨t + 1, by omega, by go_num, hR2⟩
        case measure => simp [intOf]; omega
    · obtain rfl : t = L.length := by omega
      have n2 : decide ((L.length : Int) < (L.length : Int)) = false := decide_eq_false (by omega)
      have n3 : decide (L.length < L.length) = false := decide_eq_false (by omega)
      have hW := best_first hR.out hC.out
      have hopt := val_opt L size h1
      have cB := best_any L size (keysD L L.length) w.heap.size (wr.heap.size + 1) (w.heap.size + 1 + 1 + 1) (wr.heap.size + 1 + 1) (w.heap.size + 1) wr.heap.size (w.heap.size + 1 + 1) hL h2 (keysD_nodup L L.length) (Nat.le_trans (keysD_len L L.length) (by omega)) (keysD_all L) L.length 0 0 0 _ (by omega) (by decide) (by rw [setD_zero]; rfl) (by rw [setD_zero]; exact Nat.zero_le _) hW
      unfold BestP at cB
      obtain ⟨z, hz⟩ : ∃ z, z = optH L size L.length := ⟨_, rfl⟩
      rw [hopt, ← hz] at cB
      replace hz := Box.mk hz
      rw [show ((0 : Nat) : Int) = 0 from rfl] at cB
      have cB := Box.mk cB
      clear hW hopt
      have hx3 : Ext w (((wr.alloc (.map #[] 0)).alloc (.cells #[.map (some wr.heap.size)] 75)).alloc (.cells #[(.func (.func 42) #[] #[.pointer (some ⟨w.heap.size, 0, none⟩), .pointer (some ⟨wr.heap.size + 1, 0, none⟩), .pointer (some ⟨w.heap.size + 1 + 1 + 1, 0, none⟩), .pointer (some ⟨wr.heap.size + 1 + 1, 0, none⟩), .pointer (some ⟨w.heap.size + 1, 0, none⟩)])] 76)) := Ext.alloc (Ext.alloc (Ext.alloc hR.out.ext _) _) _
      have hlt := hR.out.ext.size
      replace hx3 := Box.mk hx3
      go_wp2_with (first | (go_at_call 42; (with_reducible refine cB.out.mono ?_); rintro e w5 ⟨rfl, hk5, hm5⟩))
      go_ret2
      refine ⟨?_, hx3.out.keepB hk5 hlt⟩
      simp [go_sem]
      rw [hz.out]
end Go.Proofs.Ytbhfpofcebepiaa
