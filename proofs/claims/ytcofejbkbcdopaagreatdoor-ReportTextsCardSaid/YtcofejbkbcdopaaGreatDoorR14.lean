import Derived.Test.YtcofejbkbcdopaaGreatDoorR13
import Derived.Test.YtcofejbkbcdopaaGreatDoorR8
import Derived.Test.YtcofejbkbcdopaaGreatDoorR9
import Derived.Test.YtcofejbkbcdopaaGreatDoorRC2
import Derived.Test.YtcofejbkbcdopaaGreatDoorRW
/- Contract of the report's Scores. -/
namespace Go.Proofs.YtcofejbkbcdopaaGreatDoor
open Go.RowKit
/-- Four numbers where a score may stand. -/
structure SI where
  k : Int
  s : Int
  b : Int
  a : Int
instance : Inhabited SI := ⟨⟨0, 0, 0, 0⟩⟩
def SI.cs (x : SI) : List Value := [.int .i64 x.k, .int .i64 x.s, .int .i64 x.b, .int .i64 x.a]
def SI.ok (x : SI) : Bool := scB x.k x.s x.b x.a
def SI.sc (x : SI) : Sc := ⟨x.k.toNat, x.s.toNat, x.a.toNat, x.b.toNat⟩
theorem SI.sc_ok {x : SI} (h : x.ok = true) : x.sc.ok ∧ x.k = x.sc.k ∧ x.s = x.sc.size ∧ x.b = x.sc.b ∧ x.a = x.sc.a := by
  obtain ⟨y, h1, h2, h3, h4, h5⟩ := scB_nat h
  have e : x.sc = y := by
    cases x; cases y
    dsimp only [SI.sc] at *
    subst h2 h3 h4 h5
    simp
  rw [e]
  exact ⟨h1, h2, h3, h4, h5⟩
def allS (L : List SI) : Bool := L.all SI.ok
theorem allS_no {L : List SI} (j : Nat) (hj : j < L.length) (h : (L[j]).ok = false) : allS L = false := by
  unfold allS
  rw [List.all_eq_false]
  exact ⟨L[j], List.getElem_mem hj, by rw [h]; decide⟩
theorem allS_yes {L : List SI} (h : ∀ j (hj : j < L.length), (L[j]).ok = true) : allS L = true := by
  unfold allS
  rw [List.all_eq_true]
  intro x hx
  obtain ⟨j, hj, rfl⟩ := List.getElem_of_mem hx
  exact h j hj
def scs (L : List SI) : List Sc := L.map SI.sc
theorem scs_snoc (L : List SI) (t : Nat) (h : t < L.length) : txtS (scs (L.take (t + 1))) = txtS (scs (L.take t)) ++ (L[t]).sc.line := by
  rw [List.take_succ_eq_append_getElem h]
  unfold scs txtS
  rw [List.map_append, List.flatMap_append]
  congr 1
  simp
theorem txtS_len (l : List Sc) (h : ∀ x ∈ l, x.ok) : (txtS l).length ≤ 73 * l.length := by
  induction l with
  | nil => simp [txtS]
  | cons x l ih =>
    have h1 := line_len x (h x (by simp))
    have h2 := ih (fun y hy => h y (by simp [hy]))
    simp only [txtS, List.flatMap_cons, List.length_append, List.length_cons] at h2 ⊢
    omega
theorem scs_ok {L : List SI} {t : Nat} (h : ∀ j (hj : j < L.length), j < t → (L[j]).ok = true) : ∀ x ∈ scs (L.take t), x.ok := by
  intro x hx
  obtain ⟨y, hy, rfl⟩ := List.mem_map.1 hx
  obtain ⟨j, hj, rfl⟩ := List.getElem_of_mem hy
  rw [List.length_take] at hj
  rw [List.getElem_take]
  exact (SI.sc_ok (h j (by omega) (by omega))).1
/-- What Scores answers. -/
def ScsP (L : List SI) (w : World) (e : Ending) (w' : World) : Prop :=
  e = .returned (if 1000 < L.length then .tuple #[.string ⟨#[]⟩, .int .i64 7] else if allS L then .tuple #[.string ⟨(txtS (scs L)).toArray⟩, .int .i64 0] else .tuple #[.string ⟨#[]⟩, .int .i64 2]) ∧ Ext w w'
set_option maxRecDepth 100000 in
set_option maxHeartbeats 4000000 in
theorem scores_any (a : Option Addr) (c : Nat) (L : List SI) (w : World) (hL : L.length ≤ 9223372036854775807) (hC : CellsAt w a (rows SI.cs L)) (ht : Tabs w) : Calls Tryz.prog 11 #[.slice a L.length c] w (ScsP L w) := by
  have hT : Box (∀ w', Ext w w' → Tabs w') := ⟨fun w' h => ht.ext h⟩
  have hC := Box.mk hC
  obtain ⟨Post, hP⟩ : ∃ P, P = ScsP L w := ⟨_, rfl⟩
  rw [← hP]
  replace hP := Box.mk hP
  clear ht
  by_cases h1000 : 1000 < L.length
  · have d1 : decide (1000 < (L.length : Int)) = true := decide_eq_true (by omega)
    have d2 : decide (1000 < L.length) = true := decide_eq_true h1000
    have hb := Box.mk h1000
    clear h1000 hC
    go_enter Tryz.func11, Tryz.ntmps11
    go_wp2
    rw [hP.out]
    unfold ScsP
    rw [if_pos hb.out]
    exact ⟨rfl, Below.refl _ _⟩
  · have d1 : decide (1000 < (L.length : Int)) = false := decide_eq_false (by omega)
    have d2 : decide (1000 < L.length) = false := decide_eq_false h1000
    have hb := Box.mk h1000
    go_enter Tryz.func11, Tryz.ntmps11
    go_wp2
    go_loopw [4, 6, 7, 8, 14] (fun o _ _ _ i wr => ∃ t : Nat, t ≤ L.length ∧ i = .int .i64 (t : Int) ∧ o = .string ⟨(txtS (scs (L.take t))).toArray⟩ ∧ Box (∀ j (hj : j < L.length), j < t → (L[j]).ok = true) ∧ Ext w wr) (fun _ _ _ _ i _ => L.length - (intOf i).toNat)
    case atStart => exact ⟨0, by omega, rfl, rfl, ⟨fun j hj h => by omega⟩, Below.refl _ _⟩
    case round =>
      obtain ⟨t, htl, rfl, rfl, hok, hx⟩ := hrel
      by_cases hlt : t < L.length
      · obtain ⟨b0, o0, rfl, hrow⟩ := rows_row SI.cs 4 (fun _ => rfl) (by decide) (CellsAt.ext hx hC.out) t hlt
        have m0 : wr.cell? ⟨b0, o0 + t * 4, none⟩ = _ := hrow 0 _ rfl
        have m1 := hrow 1 _ rfl
        have m2 := hrow 2 _ rfl
        have m3 := hrow 3 _ rfl
        have d3 : decide ((t : Int) < (L.length : Int)) = true := decide_eq_true (by omega)
        have hl := Box.mk (txtS_len _ (scs_ok hok.out))
        have hsn := Box.mk (scs_snoc L t hlt)
        have hlen : (scs (L.take t)).length = t := by simp [scs]; omega
        cases hk : (L[t]).ok with
        | false =>
          have hno := Box.mk (allS_no t hlt hk)
          have cl : Box (∀ w', Ext w w' → _) := ⟨fun w' h => line_bad (L[t]).k (L[t]).s (L[t]).b (L[t]).a hk w' (hT.out w' h)⟩
          have hx9 := Ext.alloc hx (.cells #[.int .i64 (L[t]).k, .int .i64 (L[t]).s, .int .i64 (L[t]).b, .int .i64 (L[t]).a] 50)
          clear hk hrow hok hlen
          generalize L[t] = x at *
          go_wp2_with (go_at_call 27; (with_reducible refine (cl.out _ hx9).mono ?_); rintro e w1 ⟨rfl, hb1⟩; replace hx9 := Ext.trans' hx9 hb1)
          rw [hP.out]
          unfold ScsP
          rw [if_neg hb.out, hno.out]
          exact ⟨rfl, hx9⟩
        | true =>
          obtain ⟨s1, s2, s3, s4, s5⟩ := SI.sc_ok hk
          have hok2 : Box (∀ j (hj : j < L.length), j < t + 1 → (L[j]).ok = true) := ⟨fun j hj h => by
            by_cases e : j = t
            · subst e; exact hk
            · exact hok.out j hj (by omega)⟩
          have cl : Box (∀ w', Ext w w' → _) := ⟨fun w' h => line_ok (L[t]).sc s1 w' (hT.out w' h)⟩
          have hz1 : (⟨(txtS (scs (L.take t))).toArray⟩ : ByteArray).size ≤ 73000 := by
            have := hl.out
            rw [hlen] at this
            show (txtS (scs (L.take t))).toArray.size ≤ _
            simp; omega
          have hz2 : (⟨(L[t]).sc.line.toArray⟩ : ByteArray).size ≤ 73 := line_len _ s1
          have hcat : Box ((⟨(txtS (scs (L.take (t + 1)))).toArray⟩ : ByteArray) = ⟨(txtS (scs (L.take t))).toArray⟩ ++ ⟨(L[t]).sc.line.toArray⟩) := ⟨by
            apply str_ext
            rw [hsn.out]
            simp [ByteArray.data_append]⟩
          have hx9 := Ext.alloc hx (.cells #[.int .i64 (L[t]).k, .int .i64 (L[t]).s, .int .i64 (L[t]).b, .int .i64 (L[t]).a] 50)
          rw [s2] at m0 hx9
          rw [s3] at m1 hx9
          rw [s4] at m2 hx9
          rw [s5] at m3 hx9
          clear hk hrow hok hlen s1 s2 s3 s4 s5 hsn hl
          generalize (⟨(L[t]).sc.line.toArray⟩ : ByteArray) = y1 at *
          generalize (⟨(txtS (scs (L.take t))).toArray⟩ : ByteArray) = y2 at *
          generalize (L[t]).sc = x at *
          have g1 : ¬ 9223372036854775807 < y2.size + y1.size := by omega
          go_wp2_with (go_at_call 27; (with_reducible refine (cl.out _ hx9).mono ?_); rintro e w1 ⟨rfl, hb1⟩; replace hx9 := Ext.trans' hx9 hb1)
          go_roundw
          case rel => exact ⟨t + 1, by omega, by go_num, by rw [hcat.out], hok2, hx9⟩
          case measure => simp [intOf]; omega
      · obtain rfl : t = L.length := by omega
        have hyes := Box.mk (allS_yes (fun j hj => hok.out j hj hj))
        rw [List.take_length] at *
        clear hok hC
        go_wp2
        rw [hP.out]
        unfold ScsP
        rw [if_neg hb.out, hyes.out]
        exact ⟨rfl, hx⟩
end Go.Proofs.YtcofejbkbcdopaaGreatDoor
