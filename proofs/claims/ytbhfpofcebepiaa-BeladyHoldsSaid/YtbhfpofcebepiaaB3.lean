import Derived.Test.YtbhfpofcebepiaaB2
/- Contracts on lists of turns: the reference's Hits and Same (of equal lists), the program's count. -/
namespace Go.Proofs.Ytbhfpofcebepiaa
open Go.RowKit
def TnB.cs (x : TnB) : List Value := [.bool x.hit, .bool x.left, .int .u32 (x.out : Nat)]
instance : Inhabited TnB := ⟨⟨false, false, 0⟩⟩
theorem tnB_get (L : List TnB) (t : Nat) (h : t < L.length) : L[t] = tnB L t := by
  unfold tnB
  rw [List.getD_eq_getElem?_getD, List.getElem?_eq_getElem h]; rfl
theorem polH_le (L : List TnB) : ∀ n, polH L n ≤ n
  | 0 => Nat.le_refl _
  | n + 1 => by
    have := polH_le L n
    show polH L n + _ ≤ n + 1
    split <;> omega
theorem tn_struct : Try.prog.underlying 50 = some (.struct (Try.prog.fieldsOf 50)) ∧ Try.prog.stoodInHeld 50 = false ∧ Try.prog.eqGuardType Try.prog.depth 50 = false := ⟨by kernel_rfl, by kernel_rfl, by kernel_rfl⟩
theorem eqTn0 (k : Nat) (h l : Bool) (o : Int) (w : World) : (Op.equalIn (k + 3) 50 (.agg #[.bool h, .bool l, .int .u32 o]) (.agg #[.bool h, .bool l, .int .u32 o])).run Try.prog w = .ok true w := by
  rw [run_equalIn_agg w (k + 2) 50 _ _ tn_struct.1 tn_struct.2.1]
  simp only [Program.fieldsOf, Try.underlying50]
  go_simp
  try simp
theorem eqTn (h l : Bool) (o : Int) (w : World) : (Op.equalIn 10000 50 (.agg #[.bool h, .bool l, .int .u32 o]) (.agg #[.bool h, .bool l, .int .u32 o])).run Try.prog w = .ok true w := eqTn0 9997 h l o w
set_option maxRecDepth 100000 in
set_option maxHeartbeats 4000000 in
theorem rhits_any (a : Option Addr) (c : Nat) (L : List TnB) (w : World) (hL : L.length ≤ 1000000) (hC : CellsAt w a (rows TnB.cs L)) :
    Calls Try.prog 18 #[.slice a L.length c] w fun e w' => e = .returned (.int .i64 (polH L L.length : Nat)) ∧ w = w' := by
  have HC := Box.mk hC
  clear hC
  have hle : Box (∀ t, polH L t ≤ t) := ⟨polH_le L⟩
  obtain ⟨n, hn⟩ : ∃ n, n = L.length := ⟨_, rfl⟩
  rw [← hn] at hL ⊢
  have HN := Box.mk hn
  clear hn
  go_enter Try.func18, Try.ntmps18
  go_wp2
  go_loopw [3, 4] (fun o i wr => ∃ t : Nat, t ≤ n ∧ i = .int .i64 t ∧ o = .int .i64 (polH L t : Nat) ∧ w = wr) (fun _ i _ => n - (intOf i).toNat)
  case atStart => exact ⟨0, by omega, rfl, rfl, rfl⟩
  case round =>
    obtain ⟨t, ht, rfl, rfl, rfl⟩ := hrel
    by_cases hkn : t < n
    · have hkL : t < L.length := by rw [← HN.out]; exact hkn
      obtain ⟨b1, o1, rfl, r1⟩ := rows_row TnB.cs 3 (fun _ => rfl) (by decide) HC.out t hkL
      have hs2 : Box (polH L (t + 1) = polH L t + if (L[t]).hit = true then 1 else 0) := ⟨by rw [tnB_get L t hkL]; rfl⟩
      have m0 : w.cell? ⟨b1, o1 + t * 3, none⟩ = some (.bool (L[t]).hit) := r1 0 _ rfl
      clear r1
      have hf := hle.out t
      generalize L[t] = x at *
      generalize x.hit = hh at *
      have n0 : (0 : Int) ≤ (t : Int) := by omega
      have n1 : (t : Int) < (n : Int) := by omega
      have n2 : decide ((t : Int) < (n : Int)) = true := decide_eq_true n1
      have n3 : decide (t < n) = true := decide_eq_true hkn
      have w6 := b64_one (p := polH L t) (by omega)
      generalize polH L t = f at *
      cases hh
      · as_aux_lemma =>
        go_wp2
        go_roundw
        case rel => exact ⟨t + 1, by omega, by go_num, by rw [hs2.out]; rfl, by first | rfl | trivial⟩
        case measure =>
          clear w6
          simp [intOf]; omega
      · as_aux_lemma =>
        go_wp2
        go_roundw
        case rel => exact ⟨t + 1, by omega, by go_num, by rw [hs2.out]; go_num, by first | rfl | trivial⟩
        case measure =>
          clear w6
          simp [intOf]; omega
    · as_aux_lemma =>
      obtain rfl : t = n := by omega
      have n2 : decide ((t : Int) < (t : Int)) = false := decide_eq_false (by omega)
      have n3 : decide (t < t) = false := decide_eq_false (by omega)
      go_wp2
      go_ret
      exact ⟨rfl, rfl⟩
set_option maxRecDepth 100000 in
set_option maxHeartbeats 4000000 in
theorem count_any (a : Option Addr) (c : Nat) (L : List TnB) (w : World) (hL : L.length ≤ 1000000) (hC : CellsAt w a (rows TnB.cs L)) :
    Calls Try.prog 38 #[.slice a L.length c] w fun e w' => e = .returned (.int .i64 (polH L L.length : Nat)) ∧ Ext w w' := by
  have HC := Box.mk hC
  clear hC
  have hle : Box (∀ t, polH L t ≤ t) := ⟨polH_le L⟩
  obtain ⟨n, hn⟩ : ∃ n, n = L.length := ⟨_, rfl⟩
  rw [← hn] at hL ⊢
  have HN := Box.mk hn
  clear hn
  go_enter Try.func38, Try.ntmps38
  go_wp2
  go_loopw [3, 5, 8] (fun o _ i wr => ∃ t : Nat, t ≤ n ∧ i = .int .i64 t ∧ o = .int .i64 (polH L t : Nat) ∧ Box (Ext w wr)) (fun _ _ i _ => n - (intOf i).toNat)
  case atStart => exact ⟨0, by omega, rfl, rfl, ⟨Below.refl _ _⟩⟩
  case round =>
    obtain ⟨t, ht, rfl, rfl, hE⟩ := hrel
    by_cases hkn : t < n
    · have hkL : t < L.length := by rw [← HN.out]; exact hkn
      obtain ⟨b1, o1, rfl, r1⟩ := rows_row TnB.cs 3 (fun _ => rfl) (by decide) (CellsAt.ext hE.out HC.out) t hkL
      have hs2 : Box (polH L (t + 1) = polH L t + if (L[t]).hit = true then 1 else 0) := ⟨by rw [tnB_get L t hkL]; rfl⟩
      have m0 : wr.cell? ⟨b1, o1 + t * 3, none⟩ = some (.bool (L[t]).hit) := r1 0 _ rfl
      have m1 : wr.cell? ⟨b1, o1 + t * 3 + 1, none⟩ = some (.bool (L[t]).left) := r1 1 _ rfl
      have m2 : wr.cell? ⟨b1, o1 + t * 3 + 2, none⟩ = some (.int .u32 ((L[t]).out : Nat)) := r1 2 _ rfl
      clear r1
      have hf := hle.out t
      generalize L[t] = x at *
      generalize x.left = ll at *
      generalize x.out = oo at *
      generalize x.hit = hh at *
      have n0 : (0 : Int) ≤ (t : Int) := by omega
      have n1 : (t : Int) < (n : Int) := by omega
      have n2 : decide ((t : Int) < (n : Int)) = true := decide_eq_true n1
      have n3 : decide (t < n) = true := decide_eq_true hkn
      have w6 := b64_one (p := polH L t) (by omega)
      generalize polH L t = f at *
      have hE8 := Box.mk (Ext.alloc hE.out (.cells #[.bool hh, .bool ll, .int .u32 (oo : Nat)] 50))
      cases hh
      · as_aux_lemma =>
        go_wp2
        go_roundw
        case rel => exact ⟨t + 1, by omega, by go_num, by rw [hs2.out]; rfl, hE8⟩
        case measure =>
          clear w6
          simp [intOf]; omega
      · as_aux_lemma =>
        go_wp2
        go_roundw
        case rel => exact ⟨t + 1, by omega, by go_num, by rw [hs2.out]; go_num, hE8⟩
        case measure =>
          clear w6
          simp [intOf]; omega
    · as_aux_lemma =>
      obtain rfl : t = n := by omega
      have n2 : decide ((t : Int) < (t : Int)) = false := decide_eq_false (by omega)
      have n3 : decide (t < t) = false := decide_eq_false (by omega)
      go_wp2
      go_ret
      exact ⟨rfl, hE.out⟩
set_option maxRecDepth 100000 in
set_option maxHeartbeats 4000000 in
theorem rsame_any (a b : Option Addr) (c d : Nat) (L : List TnB) (w : World) (hL : L.length ≤ 1000000) (hC : CellsAt w a (rows TnB.cs L)) (hD : CellsAt w b (rows TnB.cs L)) :
    Calls Try.prog 17 #[.slice a L.length c, .slice b L.length d] w fun e w' => e = .returned (.bool true) ∧ Ext w w' := by
  have HC := Box.mk hC
  have HD := Box.mk hD
  clear hC hD
  have ge := tn_struct.2.2
  obtain ⟨n, hn⟩ : ∃ n, n = L.length := ⟨_, rfl⟩
  rw [← hn] at hL ⊢
  have HN := Box.mk hn
  clear hn
  go_enter Try.func17, Try.ntmps17
  go_wp2
  go_loopw [5] (fun i wr => ∃ t : Nat, t ≤ n ∧ i = .int .i64 t ∧ Box (Ext w wr)) (fun i _ => n - (intOf i).toNat)
  case atStart => exact ⟨0, by omega, rfl, ⟨Below.refl _ _⟩⟩
  case round =>
    obtain ⟨t, ht, rfl, hE⟩ := hrel
    by_cases hkn : t < n
    · as_aux_lemma =>
      have hkL : t < L.length := by rw [← HN.out]; exact hkn
      obtain ⟨b1, o1, rfl, r1⟩ := rows_row TnB.cs 3 (fun _ => rfl) (by decide) (CellsAt.ext hE.out HC.out) t hkL
      obtain ⟨b2, o2, rfl, r2⟩ := rows_row TnB.cs 3 (fun _ => rfl) (by decide) (CellsAt.ext hE.out HD.out) t hkL
      have m0 : wr.cell? ⟨b1, o1 + t * 3, none⟩ = some (.bool (L[t]).hit) := r1 0 _ rfl
      have m1 : wr.cell? ⟨b1, o1 + t * 3 + 1, none⟩ = some (.bool (L[t]).left) := r1 1 _ rfl
      have m2 : wr.cell? ⟨b1, o1 + t * 3 + 2, none⟩ = some (.int .u32 ((L[t]).out : Nat)) := r1 2 _ rfl
      have p0 : wr.cell? ⟨b2, o2 + t * 3, none⟩ = some (.bool (L[t]).hit) := r2 0 _ rfl
      have p1 : wr.cell? ⟨b2, o2 + t * 3 + 1, none⟩ = some (.bool (L[t]).left) := r2 1 _ rfl
      have p2 : wr.cell? ⟨b2, o2 + t * 3 + 2, none⟩ = some (.int .u32 ((L[t]).out : Nat)) := r2 2 _ rfl
      have qe := fun w => eqTn (L[t]).hit (L[t]).left ((L[t]).out : Nat) w
      clear r1 r2
      generalize L[t] = x at *
      have n0 : (0 : Int) ≤ (t : Int) := by omega
      have n1 : (t : Int) < (n : Int) := by omega
      have n2 : decide ((t : Int) < (n : Int)) = true := decide_eq_true n1
      have n3 : decide (t < n) = true := decide_eq_true hkn
      go_wp2
      go_region
      all_goals
        go_wp2
        go_roundw
        case rel => exact ⟨t + 1, by omega, by go_num, ⟨Ext.drew1 hE.out⟩⟩
        case measure => simp [intOf]; omega
    · obtain rfl : t = n := by omega
      have n2 : decide ((t : Int) < (t : Int)) = false := decide_eq_false (by omega)
      have n3 : decide (t < t) = false := decide_eq_false (by omega)
      go_wp2
      go_ret
      exact ⟨rfl, hE.out⟩
end Go.Proofs.Ytbhfpofcebepiaa
