import Derived.Test.YtbhfpofcebepiaaLib
import Derived.Test.YtbhfpofcebepiaaBQ
/- Contracts of small functions of layer 36: the program's allowed; the reference's Size, next, has, without. -/
namespace Go.Proofs.Ytbhfpofcebepiaa
open Go.RowKit
/-- Keys. -/
def u32L (L : List Nat) : List Value := L.map fun x => .int .u32 (x : Nat)
theorem u32L_at {L : List Nat} {t : Nat} (h : t < L.length) : (u32L L)[t]? = some (.int .u32 (L[t] : Nat)) := by simp [u32L, h]
theorem u32L_snoc (L : List Nat) (x : Nat) : u32L (L ++ [x]) = u32L L ++ [.int .u32 (x : Nat)] := by simp [u32L]
theorem infoU32 : (Try.prog.info? 45).map (fun i => (i.zero, i.size, i.bytes)) = some (some (.int .u32 0), 1, 4) := by kernel_rfl
theorem b64_one {p : Nat} (h : p ≤ 1000000) : IntKind.i64.wrap ((p : Int) + 1) = (p : Int) + 1 := by rw [IntKind.wrap_i64]; omega
theorem slice_form {w : World} {base : Nat} {e : TypeId} {size : Nat} {v : Value} {n : Nat} {xs : List Value} (h : w.ownsRow base e size v n xs) : ∃ a c, v = .slice a n c := by
  rcases h.2 with ⟨h1, h2⟩ | ⟨g, cap, cur, h9, _⟩
  · exact ⟨none, 0, by rw [h1, h2]⟩
  · exact ⟨_, _, h9⟩
/-- What allowed answers. -/
def allB (n most size : Int) : Int := if most < n then 5 else if size < 1 ∨ 1024 < size then 2 else 0
set_option maxHeartbeats 1000000 in
theorem allowed_any (a : Option Addr) (n c : Nat) (most size : Int) (w : World) : Calls Try.prog 29 #[.slice a n c, .int .i64 most, .int .i64 size] w fun e w' => e = .returned (.int .i64 (allB n most size)) ∧ w = w' := by
  unfold allB
  by_cases h1 : most < (n : Int)
  · have d1 : decide (most < (n : Int)) = true := decide_eq_true h1
    rw [if_pos h1]
    clear h1
    go_enter Try.func29, Try.ntmps29
    go_wp2
    go_ret
    exact ⟨rfl, rfl⟩
  · have d1 : decide (most < (n : Int)) = false := decide_eq_false h1
    rw [if_neg h1]
    have key : (decide (size < 1) = true ∧ (size < 1 ∨ 1024 < size)) ∨ (decide (size < 1) = false ∧ decide (1024 < size) = true ∧ (size < 1 ∨ 1024 < size)) ∨ (decide (size < 1) = false ∧ decide (1024 < size) = false ∧ ¬ (size < 1 ∨ 1024 < size)) := by
      by_cases h2 : size < 1
      · exact Or.inl ⟨decide_eq_true h2, Or.inl h2⟩
      · by_cases h3 : 1024 < size
        · exact Or.inr (Or.inl ⟨decide_eq_false h2, decide_eq_true h3, Or.inr h3⟩)
        · exact Or.inr (Or.inr ⟨decide_eq_false h2, decide_eq_false h3, by omega⟩)
    clear h1
    rcases key with ⟨d2, h⟩ | ⟨d2, d3, h⟩ | ⟨d2, d3, h⟩
    · rw [if_pos h]
      clear h
      go_enter Try.func29, Try.ntmps29
      go_wp2
      go_ret
      exact ⟨rfl, rfl⟩
    · rw [if_pos h]
      clear h
      go_enter Try.func29, Try.ntmps29
      go_wp2
      go_ret
      exact ⟨rfl, rfl⟩
    · rw [if_neg h]
      clear h
      go_enter Try.func29, Try.ntmps29
      go_wp2
      go_ret
      exact ⟨rfl, rfl⟩
def szB (size : Int) : Bool := decide (1 ≤ size) && decide (size ≤ 1024)
set_option maxHeartbeats 1000000 in
theorem rsize_any (size : Int) (w : World) : Calls Try.prog 15 #[.int .i64 size] w fun e w' => e = .returned (.bool (szB size)) ∧ w = w' := by
  unfold szB
  by_cases h1 : 1 ≤ size
  · have d1 : decide (1 ≤ size) = true := decide_eq_true h1
    clear h1
    go_enter Try.func15, Try.ntmps15
    go_wp2
    go_ret
    exact ⟨ret_bool (by simp [d1]), rfl⟩
  · have d1 : decide (1 ≤ size) = false := decide_eq_false h1
    clear h1
    go_enter Try.func15, Try.ntmps15
    go_wp2
    go_ret
    exact ⟨ret_bool (by simp [d1]), rfl⟩
set_option maxRecDepth 100000 in
set_option maxHeartbeats 4000000 in
theorem rnext_any (a : Option Addr) (c : Nat) (L : List Nat) (fr key : Nat) (w : World) (hL : L.length ≤ 1000000) (hf : fr ≤ L.length) (hC : CellsAt w a (u32L L)) :
    Calls Try.prog 31 #[.slice a L.length c, .int .i64 fr, .int .u32 key] w fun e w' => e = .returned (.int .i64 (nxB L key fr : Nat)) ∧ w = w' := by
  have HC := Box.mk hC
  clear hC
  obtain ⟨R, hR⟩ : ∃ R, R = nxB L key fr := ⟨_, rfl⟩
  rw [← hR]
  have hR0 : Box (nxB L key fr = R) := ⟨hR.symm⟩
  clear hR
  obtain ⟨n, hn⟩ : ∃ n, n = L.length := ⟨_, rfl⟩
  rw [← hn] at hL hf ⊢
  have HN := Box.mk hn
  clear hn
  go_enter Try.func31, Try.ntmps31
  go_wp2
  go_loopw [7] (fun i wr => ∃ t : Nat, t ≤ n ∧ i = .int .i64 t ∧ Box (nxB L key t = R) ∧ w = wr) (fun i _ => n - (intOf i).toNat)
  case atStart => exact ⟨fr, hf, rfl, hR0, rfl⟩
  case round =>
    clear hR0
    obtain ⟨t, ht, rfl, hR, rfl⟩ := hrel
    by_cases hkn : t < n
    · have hkL : t < L.length := by rw [← HN.out]; exact hkn
      obtain ⟨b1, o1, rfl, hcell⟩ := HC.out t _ (u32L_at hkL)
      have hg : L[t]? = some L[t] := List.getElem?_eq_getElem hkL
      generalize L[t] = x at *
      have n0 : (0 : Int) ≤ (t : Int) := by omega
      have n1 : (t : Int) < (n : Int) := by omega
      have n2 : decide ((t : Int) < (n : Int)) = true := decide_eq_true n1
      have n3 : decide (t < n) = true := decide_eq_true hkn
      by_cases hx : x = key
      · as_aux_lemma =>
        have e1 : ((x : Int) == (key : Int)) = true := by rw [hx]; simp
        have e2 : (x == key) = true := by rw [hx]; simp
        have hRt : R = t := by rw [← hR.out, nxB_here L key t (by rw [hg, hx])]
        clear hx hg
        go_wp2
        go_ret
        exact ⟨by rw [hRt]; rfl, rfl⟩
      · as_aux_lemma =>
        have e1 : ((x : Int) == (key : Int)) = false := by rw [beq_eq_false_iff_ne]; omega
        have e2 : (x == key) = false := by rw [beq_eq_false_iff_ne]; exact hx
        have hR2 : Box (nxB L key (t + 1) = R) := ⟨by rw [← hR.out, nxB_step L key x t hg hx]⟩
        clear hx hg
        go_wp2
        go_roundw
        case rel => exact ⟨t + 1, by omega, by go_num, hR2, by first | rfl | trivial⟩
        case measure => simp [intOf]; omega
    · as_aux_lemma =>
      obtain rfl : t = n := by omega
      have n2 : decide ((t : Int) < (t : Int)) = false := decide_eq_false (by omega)
      have n3 : decide (t < t) = false := decide_eq_false (by omega)
      have hRt : R = t := by rw [← hR.out, nxB_end L key t (by rw [← HN.out]; exact Nat.le_refl _)]
      go_wp2
      go_ret
      exact ⟨by rw [hRt]; rfl, rfl⟩
set_option maxRecDepth 100000 in
set_option maxHeartbeats 4000000 in
theorem rhas_any (a : Option Addr) (c : Nat) (L : List Nat) (key : Nat) (w : World) (hL : L.length ≤ 1000000) (hC : CellsAt w a (u32L L)) :
    Calls Try.prog 39 #[.slice a L.length c, .int .u32 key] w fun e w' => e = .returned (.bool (decide (key ∈ L))) ∧ w = w' := by
  have HC := Box.mk hC
  clear hC
  obtain ⟨n, hn⟩ : ∃ n, n = L.length := ⟨_, rfl⟩
  rw [← hn] at hL ⊢
  have HN := Box.mk hn
  clear hn
  go_enter Try.func39, Try.ntmps39
  go_wp2
  go_loopw [5] (fun i wr => ∃ t : Nat, t ≤ n ∧ i = .int .i64 t ∧ Box (∀ j (h : j < L.length), j < t → L[j] ≠ key) ∧ w = wr) (fun i _ => n - (intOf i).toNat)
  case atStart => exact ⟨0, by omega, rfl, ⟨fun j _ h => absurd h (by omega)⟩, rfl⟩
  case round =>
    obtain ⟨t, ht, rfl, hA, rfl⟩ := hrel
    by_cases hkn : t < n
    · have hkL : t < L.length := by rw [← HN.out]; exact hkn
      obtain ⟨b1, o1, rfl, hcell⟩ := HC.out t _ (u32L_at hkL)
      have hm : L[t] ∈ L := List.getElem_mem hkL
      have hsn : Box (L[t] ≠ key → ∀ j (h : j < L.length), j < t + 1 → L[j] ≠ key) := ⟨fun hx j h h2 => by
        by_cases e : j = t
        · subst e; exact hx
        · exact hA.out j h (by omega)⟩
      generalize L[t] = x at *
      have n0 : (0 : Int) ≤ (t : Int) := by omega
      have n1 : (t : Int) < (n : Int) := by omega
      have n2 : decide ((t : Int) < (n : Int)) = true := decide_eq_true n1
      have n3 : decide (t < n) = true := decide_eq_true hkn
      by_cases hx : x = key
      · as_aux_lemma =>
        have e1 : ((x : Int) == (key : Int)) = true := by rw [hx]; simp
        have e2 : (x == key) = true := by rw [hx]; simp
        have hd : Box (decide (key ∈ L) = true) := ⟨decide_eq_true (hx ▸ hm)⟩
        clear hx hm
        go_wp2
        go_ret
        exact ⟨by rw [hd.out]; rfl, rfl⟩
      · as_aux_lemma =>
        have e1 : ((x : Int) == (key : Int)) = false := by rw [beq_eq_false_iff_ne]; omega
        have e2 : (x == key) = false := by rw [beq_eq_false_iff_ne]; exact hx
        have hA2 := Box.mk (hsn.out hx)
        clear hx hm
        go_wp2
        go_roundw
        case rel => exact ⟨t + 1, by omega, by go_num, hA2, by first | rfl | trivial⟩
        case measure => simp [intOf]; omega
    · as_aux_lemma =>
      obtain rfl : t = n := by omega
      have n2 : decide ((t : Int) < (t : Int)) = false := decide_eq_false (by omega)
      have n3 : decide (t < t) = false := decide_eq_false (by omega)
      have hd : Box (decide (key ∈ L) = false) := ⟨decide_eq_false (fun hm => by
        obtain ⟨j, hj, e⟩ := List.getElem_of_mem hm
        exact hA.out j hj (by have := HN.out; omega) e)⟩
      go_wp2
      go_ret
      exact ⟨by rw [hd.out]; rfl, rfl⟩
set_option maxRecDepth 100000 in
set_option maxHeartbeats 4000000 in
theorem rwithout_any (a : Option Addr) (c : Nat) (L : List Nat) (key : Nat) (w : World) (hL : L.length ≤ 1000000) (hC : CellsAt w a (u32L L)) :
    Calls Try.prog 40 #[.slice a L.length c, .int .u32 key] w fun e w' => ∃ a' c', e = .returned (.slice a' (woB L key).length c') ∧ w'.ownsRow w.heap.size 45 1 (.slice a' (woB L key).length c') (woB L key).length (u32L (woB L key)) ∧ Ext w w' := by
  obtain ⟨i0, hi, hz0, hz1, hz2⟩ := info_parts infoU32
  have HC := Box.mk hC
  clear hC
  obtain ⟨n, hn⟩ : ∃ n, n = L.length := ⟨_, rfl⟩
  rw [← hn] at hL ⊢
  have HN := Box.mk hn
  clear hn
  go_enter Try.func40, Try.ntmps40
  go_wp2
  go_loopw [5, 6] (fun o i wr => ∃ t : Nat, t ≤ n ∧ i = .int .i64 t ∧ ∃ (K : List Nat) (m : Nat), Box (K = woB (L.take t) key) ∧ Box (K.length = m) ∧ m ≤ t ∧ ∃ a' c', o = .slice a' m c' ∧ Box (wr.ownsRow w.heap.size 45 1 (.slice a' m c') m (u32L K)) ∧ Box (Ext w wr)) (fun _ i _ => n - (intOf i).toNat)
  case atStart => exact ⟨0, by omega, rfl, [], 0, ⟨rfl⟩, ⟨rfl⟩, Nat.le_refl _, none, 0, rfl, ⟨World.ownsRow_nil _ _ _ _⟩, ⟨Below.refl _ _⟩⟩
  case round =>
    obtain ⟨t, ht, rfl, K, m, hK, hm, hmt, a', c', rfl, hown, hE⟩ := hrel
    by_cases hkn : t < n
    · have hkL : t < L.length := by rw [← HN.out]; exact hkn
      obtain ⟨b1, o1, rfl, hcell⟩ := CellsAt.ext hE.out HC.out t _ (u32L_at hkL)
      have hst : woB (L.take (t + 1)) key = woB (L.take t) key ++ woB [L[t]] key := by
        rw [List.take_succ_eq_append_getElem hkL]
        unfold woB
        rw [List.filter_append]
      rw [← hK.out] at hst
      generalize L[t] = x at *
      have n0 : (0 : Int) ≤ (t : Int) := by omega
      have n1 : (t : Int) < (n : Int) := by omega
      have n2 : decide ((t : Int) < (n : Int)) = true := decide_eq_true n1
      have n3 : decide (t < n) = true := decide_eq_true hkn
      by_cases hx : x = key
      · as_aux_lemma =>
        have e1 : ((x : Int) != (key : Int)) = false := by rw [hx]; simp
        have e2 : (x != key) = false := by rw [hx]; simp
        have hK2 : Box (K = woB (L.take (t + 1)) key) := ⟨by
          rw [hst]
          unfold woB
          simp [hx]⟩
        clear hx hst
        go_wp2
        go_roundw
        case rel => exact ⟨t + 1, by omega, by go_num, K, m, hK2, hm, by omega, a', c', rfl, hown, hE⟩
        case measure => simp [intOf]; omega
      · as_aux_lemma =>
        have e0 : ((x : Int) == (key : Int)) = false := by rw [beq_eq_false_iff_ne]; omega
        have e1 : ((x : Int) != (key : Int)) = true := by rw [bne, e0]; rfl
        have e2 : (x != key) = true := by rw [bne_iff_ne]; exact hx
        have hK2 : Box (K ++ [x] = woB (L.take (t + 1)) key) := ⟨by
          rw [hst]
          unfold woB
          simp [hx]⟩
        have hm2 : Box ((K ++ [x]).length = m + 1) := ⟨by rw [List.length_append, hm.out]; rfl⟩
        have hsn := Box.mk (u32L_snoc K x)
        have hk5 : m + 1 ≤ 140737488355328 := by omega
        have hk6 : (m + 1) * 4 ≤ 140737488355328 := by omega
        clear hx hst
        go_wp2_with (at_builtin; refine wpList_push rfl _ _ 22 rfl w.heap.size 45 i0 (.int .u32 0) 1 4 Try.underlying22 hi hz0 hz1 hz2 rfl (by decide) _ _ _ rfl hown.out [.int .u32 (x : Nat)] rfl rfl (by simp [Value.oneCell']) hk5 hk6 hE.out.size ?_; intro v1 w3 hown3 hg3 hbel3 hs3)
        obtain ⟨a7, c7, rfl⟩ := slice_form hown3
        go_roundw
        case rel => exact ⟨t + 1, by omega, by go_num, K ++ [x], m + 1, hK2, hm2, by omega, a7, c7, rfl, ⟨by rw [hsn.out]; exact hown3⟩, ⟨Below.trans hE.out hbel3⟩⟩
        case measure => simp [intOf]; omega
    · as_aux_lemma =>
      obtain rfl : t = n := by omega
      have n2 : decide ((t : Int) < (t : Int)) = false := decide_eq_false (by omega)
      have n3 : decide (t < t) = false := decide_eq_false (by omega)
      have hKF : K = woB L key := by
        rw [hK.out, List.take_of_length_le (by rw [HN.out]; exact Nat.le_refl _)]
      have hlen : m = (woB L key).length := by rw [← hm.out, hKF]
      rw [hKF, hlen] at hown
      have hml := Box.mk hlen
      clear hK hKF hm hlen
      go_wp2
      go_ret
      exact ⟨a', c', by rw [← hml.out]; rfl, by rw [← hml.out] at hown ⊢; exact hown.out, hE.out⟩
end Go.Proofs.Ytbhfpofcebepiaa
