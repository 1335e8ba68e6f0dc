import Derived.Test.YtnblbneehogadaaH5
/- Contracts: slices.ContainsFunc with Publish's closure, find, slices.Clone of kinds. -/
namespace Go.Proofs.Ytnblbneehogadaa
open Go.RowKit Go.ChangeMaps

/-- The first event that is not valid. -/
def badI (L : List EvX) : Int := if allOk L then -1 else ((L.findIdx fun x => !x.ok : Nat) : Int)
theorem badI_at (L : List EvX) (t : Nat) (h : t < L.length) (hb : (L[t]).ok = false) (hA : ∀ j (hj : j < L.length), j < t → (L[j]).ok = true) : badI L = (t : Nat) := by
  unfold badI
  rw [allOk_no t h hb, if_neg (by decide)]
  congr 1
  rw [List.findIdx_eq h]
  refine ⟨by rw [hb]; rfl, fun j hj => ?_⟩
  rw [hA j (by omega) hj]; rfl
theorem badI_pos (L : List EvX) : decide (0 ≤ badI L) = !allOk L := by
  unfold badI
  cases allOk L with
  | true => rfl
  | false =>
    rw [if_neg (by decide)]
    exact decide_eq_true (Int.natCast_nonneg _)
set_option maxHeartbeats 1000000 in
theorem inv_any (y : EvX) (ua : Option Addr) (uc : Nat) (w : World) (hin : y.In) : Calls Try.prog 34 #[(.agg #[.int .i64 y.k, .string y.s, .slice ua y.l.length uc, .int .u64 y.b, .int .u64 y.d, .int .u64 y.t])] w fun e w' => e = .returned (.bool (!y.ok)) ∧ Ext w w' := by
  have hx : Ext w (w.alloc (.cells #[.int .i64 y.k, .string y.s, .slice ua y.l.length uc, .int .u64 y.b, .int .u64 y.d, .int .u64 y.t] 30)) := Ext.alloc (Below.refl _ _) _
  have h1 := hin.s; have h2 := hin.l
  have c1 : Box (∀ w, Calls Try.prog 35 #[(.agg #[.int .i64 y.k, .string y.s, .slice ua y.l.length uc, .int .u64 y.b, .int .u64 y.d, .int .u64 y.t])] w fun e w' => e = .returned (.bool y.ok) ∧ Ext w w') := ⟨fun w => vvalid_any y.k y.s ua y.l.length uc y.b y.d y.t w (by omega) (by omega) hin.b hin.d hin.t⟩
  clear hin h1 h2
  generalize y.ok = q at *
  go_enter Try.func34, Try.ntmps34
  go_wp2_with (first | (go_at_call 35; (with_reducible refine (c1.out _).mono ?_); rintro e w1 ⟨rfl, hb⟩; have hx := Ext.trans' hx hb))
  go_ret
  exact ⟨rfl, hx⟩
set_option maxHeartbeats 2000000 in
theorem bindex_any (v : Value) (L : List EvX) (w : World) (hX : Xs w v L) :
    Calls Try.prog 49 #[v, .func (.func 34) #[] #[]] w fun e w' => e = .returned (.int .i64 (badI L)) ∧ Ext w w' := by
  obtain ⟨a, c, rfl, hL, hc, hC, hAt⟩ := hX
  have HC := Box.mk hC; have HA := Box.mk hAt
  obtain ⟨n, hn⟩ : ∃ n, n = L.length := ⟨_, rfl⟩
  rw [← hn] at hL hc ⊢
  have HN := Box.mk hn
  clear hC hAt hn
  go_enter Try.func49, Try.ntmps49
  go_wp2
  go_loopw [8] (fun i wr => ∃ t : Nat, t ≤ n ∧ i = .int .i64 t ∧ Box (∀ j (h : j < L.length), j < t → (L[j]).ok = true) ∧ Box (Ext w wr)) (fun i _ => n - (intOf i).toNat)
  case atStart => exact ⟨0, by omega, rfl, ⟨fun j _ h => absurd h (by omega)⟩, ⟨Below.refl _ _⟩⟩
  case round =>
    obtain ⟨t, ht, rfl, hA, hE⟩ := hrel
    by_cases hkn : t < n
    · have hkL : t < L.length := by rw [← HN.out]; exact hkn
      obtain ⟨b1, o1, rfl, p0, p1, p2, p3, p4, p5⟩ := Xs.row (CellsAt.ext hE.out HC.out) t hkL
      obtain ⟨hin, ⟨x1, y1, hu⟩, _⟩ := HA.out L[t] (List.getElem_mem hkL)
      have hsn : Box ((L[t]).ok = true → ∀ j (h : j < L.length), j < t + 1 → (L[j]).ok = true) := ⟨fun hx j h h2 => by
        by_cases e : j = t
        · subst e; exact hx
        · exact hA.out j h (by omega)⟩
      have hy : Box ((L[t]).ok = false → badI L = (t : Nat)) := ⟨fun h => badI_at L t hkL h hA.out⟩
      have c1 := Box.mk (inv_any L[t] x1 y1 wr hin)
      rw [hu] at p2
      clear hu hin
      generalize L[t] = y at *
      have n0 : (0 : Int) ≤ (t : Int) := by omega
      have n1 : (t : Int) < (n : Int) := by omega
      have n2 : decide ((t : Int) < (n : Int)) = true := decide_eq_true n1
      have n3 : decide (t < n) = true := decide_eq_true hkn
      cases hx : y.ok
      · have hrt := Box.mk (hy.out hx)
        rw [hx] at c1
        clear hx
        go_wp2_with (first | (go_at_call 34; (with_reducible refine (c1.out).mono ?_); rintro e w1 ⟨rfl, hb1⟩))
        go_ret
        exact ⟨ret_int hrt.out.symm, Ext.trans' hE.out hb1⟩
      · rw [hx] at c1
        have hA2 := Box.mk (hsn.out hx)
        clear hx
        go_wp2_with (first | (go_at_call 34; (with_reducible refine (c1.out).mono ?_); rintro e w1 ⟨rfl, hb1⟩))
        go_roundw
        case rel => exact ⟨t + 1, by omega, by go_num, hA2, ⟨Ext.trans' hE.out hb1⟩⟩
        case measure => simp [intOf]; omega
    · obtain rfl : t = n := by omega
      have n2 : decide ((t : Int) < (t : Int)) = false := decide_eq_false (by omega)
      have n3 : decide (t < t) = false := decide_eq_false (by omega)
      have hd : Box (badI L = -1) := ⟨by
        unfold badI
        rw [allOk_of (fun j hj => hA.out j hj (by rw [HN.out]; exact hj)), if_pos rfl]⟩
      go_wp2
      go_ret
      exact ⟨ret_int hd.out.symm, hE.out⟩
set_option maxHeartbeats 1000000 in
theorem bcontains_any (v : Value) (L : List EvX) (w : World) (hX : Xs w v L) :
    Calls Try.prog 33 #[v, .func (.func 34) #[] #[]] w fun e w' => e = .returned (.bool (!allOk L)) ∧ Ext w w' := by
  have c1 := Box.mk (bindex_any v L w hX)
  have hz := badI_pos L
  generalize badI L = z at *
  obtain ⟨a, c, rfl, _⟩ := hX
  generalize L.length = n at *
  go_enter Try.func33, Try.ntmps33
  go_wp2_with (first | (go_at_call 49; (with_reducible refine (c1.out).mono ?_); rintro e w1 ⟨rfl, hb1⟩))
  go_ret
  exact ⟨ret_bool (by simp [hz]), hb1⟩
theorem getI_ent {L : List (Int × WtX)} (hn : (L.map (·.1)).Nodup) {j : Nat} {id : Int} {x : WtX} (hj : L[j]? = some (id, x)) : getI (L.map ent) id = some (.pointer (some ⟨x.B, 0, none⟩)) := by
  have h1 : (L.map ent)[j]? = some (id, .pointer (some ⟨x.B, 0, none⟩)) := by rw [List.getElem?_map, hj]; rfl
  have h2 : ((L.map ent).map (·.1)).Nodup := by rw [List.map_map]; exact hn
  rw [← posI_get id (L.map ent) 0, pos_some h2 h1]
  rfl
theorem getI_no {L : List (Int × WtX)} {id : Int} (h : id ∉ L.map (·.1)) : getI (L.map ent) id = none := by
  rw [← posI_get id (L.map ent) 0, pos_none (by rw [List.map_map]; exact h)]
  rfl
theorem HubOk.look {base : Nat} {w : World} {H : Nat} {mo : Option Nat} {L : List (Int × WtX)} (h : HubOk base w H mo L) (id : Int) : (Instr.lookup 34 (.map mo) (.int .i64 id) false).run Try.prog w = .ok ((getI (L.map ent) id).getD (.pointer none)) w := by
  rcases h.mp with ⟨rfl, rfl⟩ | ⟨mb, rfl, _, hm⟩
  · exact iLook0 id w
  · exact iLook hm id
set_option maxHeartbeats 1000000 in
theorem find_ok {base : Nat} {w : World} {H : Nat} {mo : Option Nat} {L : List (Int × WtX)} (h : HubOk base w H mo L) {j : Nat} {id : Int} {x : WtX} (hj : L[j]? = some (id, x)) :
    Calls Try.prog 39 #[.pointer (some ⟨H, 0, none⟩), .int .i64 id] w fun e w' => e = .returned (.tuple #[.pointer (some ⟨x.B, 0, none⟩), .int .i64 0]) ∧ w = w' := by
  have hl := h.look id
  rw [getI_ent h.ids hj] at hl
  have m0 : w.cell? ⟨H, 0, none⟩ = some (.map mo) := by rw [Lib.cell_of_heap h.hd]; rfl
  simp only [Option.getD_some] at hl
  clear h hj
  go_enter Try.func39, Try.ntmps39
  go_wp2
  go_ret2
  exact ⟨rfl, rfl⟩
set_option maxHeartbeats 1000000 in
theorem find_no {base : Nat} {w : World} {H : Nat} {mo : Option Nat} {L : List (Int × WtX)} (h : HubOk base w H mo L) {id : Int} (hid : id ∉ L.map (·.1)) :
    Calls Try.prog 39 #[.pointer (some ⟨H, 0, none⟩), .int .i64 id] w fun e w' => e = .returned (.tuple #[.pointer none, .int .i64 9]) ∧ w = w' := by
  have hl := h.look id
  rw [getI_no hid] at hl
  have m0 : w.cell? ⟨H, 0, none⟩ = some (.map mo) := by rw [Lib.cell_of_heap h.hd]; rfl
  simp only [Option.getD_none] at hl
  clear h hid
  go_enter Try.func39, Try.ntmps39
  go_wp2
  go_ret2
  exact ⟨rfl, rfl⟩
set_option maxHeartbeats 400000 in
theorem find_nil (id : Int) (w : World) : Calls Try.prog 39 #[.pointer none, .int .i64 id] w fun e w' => e = .returned (.tuple #[.pointer none, .int .i64 1]) ∧ w = w' := by
  go_enter Try.func39, Try.ntmps39
  go_wp2
  go_ret2
  exact ⟨rfl, rfl⟩
theorem infoKind : (Try.prog.info? 25).map (fun i => (i.zero, i.size, i.bytes)) = some (some (.int .i64 0), 1, 8) := by kernel_rfl
end Go.Proofs.Ytnblbneehogadaa
