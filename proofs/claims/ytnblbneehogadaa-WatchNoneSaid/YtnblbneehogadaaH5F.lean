import Derived.Test.YtnblbneehogadaaH4
/- Plain laws of a watcher that gets an event. -/
namespace Go.Proofs.Ytnblbneehogadaa
open Go.RowKit
/-- Only the watcher's own block changes. -/
theorem WOk.head {base : Nat} {w w' : World} {x x' : WtX} (h : WOk base w x) (hM : Mut (fun j => j = x.B) w w') (hd : w'.heap[x.B]? = some (.cells (wtC x') 76 (0, 0))) (e1 : x'.B = x.B) (e2 : x'.rv = x.rv) (e3 : x'.R = x.R) (e4 : x'.kv = x.kv) (e5 : x'.ks = x.ks) (e6 : x'.room = x.room) (e7 : x'.m = x.m) (e8 : x'.f = x.f) : WOk base w' x' ∧ Mut (fun j => j ∈ x.fp) w w' ∧ x'.fp = x.fp := by
  have hBfp : x.B ∈ x.fp := fp_mem.2 (Or.inl rfl)
  have hM' : Mut (fun j => j ∈ x.fp) w w' := hM.mono (fun j e => by rw [e]; exact hBfp)
  have hk : Keep tH w w' := Keep.of_mut hM' fun j hj => (h.types hj).2.2
  have hfp : x'.fp = x.fp := by unfold WtX.fp; rw [e1, e2, e3]
  have hnd := h.nd
  unfold WtX.fp at hnd
  rw [List.nodup_cons] at hnd
  have ho : ∀ b ∈ x.fp, b ≠ x.B → w'.heap[b]? = w.heap[b]? := fun b hb hne => hM.other b (h.types hb).2.1 hne
  refine ⟨⟨by rw [e1]; exact hd, by rw [e1]; exact h.low, by rw [e2, e3]; exact ownsRow_of h.row (fun g hg => ho g (fp_mem.2 (Or.inr (Or.inl hg))) (fun e => hnd.1 (by rw [← e]; exact List.mem_append_left _ (by rw [hg]; simp)))), by
    rw [e3]
    exact fun s hs => ⟨(h.own s hs).1, ownsRow_of (h.own s hs).2 (fun g hg => ho g (fp_mem.2 (Or.inr (Or.inr ⟨s, hs, hg⟩))) (fun e => hnd.1 (by rw [← e]; exact List.mem_append_right _ (vbs_mem.2 ⟨s, hs, hg⟩))))⟩, by rw [e4, e5]; exact ownsRow_of h.kin (h.keep hk), by rw [e5]; exact h.kle, by rw [e6]; exact h.room1, by rw [e6]; exact h.room2, by rw [e3, e6]; exact h.fit, by rw [e7, e3]; exact h.mle, by rw [e8, e3]; exact h.fl, by rw [hfp]; exact h.nd⟩, hM', hfp⟩
theorem put_fin {base : Nat} {w w3 w4 w5 : World} {x : WtX} {p g c : Nat} {y : EvX} (H : WOk base w x) (hm : x.m < x.R.length) (hp : p = (x.f + x.m) % x.R.length) (hv : x.rv = .slice (some ⟨g, 0, none⟩) x.R.length c)
    (hx : Ext w w3) (hy : y.In) (ho : OwnB w.heap.size w3 y.u y.l) (hb : base ≤ w.heap.size)
    (hrow : w4.ownsRow base 30 6 x.rv x.R.length (xs (x.R.set p y))) (h1 : Mut (fun j => j = g) w3 w4) (h2 : Mut (fun j => j = x.B) w4 w5)
    (hd5 : w5.heap[x.B]? = some (.cells #[.string x.pre, x.kv, .int .i64 (x.room : Nat), .bool x.old, x.rv, .int .i64 (x.f : Nat), .int .i64 ((x.m + 1 : Nat) : Int), .int .i64 (x.lost : Nat)] 76 (0, 0))) :
    WOk base w5 { x with R := x.R.set p y, m := x.m + 1 } ∧ Mut (fun j => j ∈ x.fp) w w5 ∧ (∀ b ∈ ({ x with R := x.R.set p y, m := x.m + 1 } : WtX).fp, b ∈ x.fp ∨ w.heap.size ≤ b) ∧ ({ x with R := x.R.set p y, m := x.m + 1 } : WtX).wait = x.wait ++ [y.core] := by
  have hpl : p < x.R.length := by rw [hp]; exact Nat.mod_lt _ (by omega)
  have hgfp : g ∈ x.fp := fp_mem.2 (Or.inr (Or.inl (by rw [hv]; rfl)))
  have hBfp : x.B ∈ x.fp := fp_mem.2 (Or.inl rfl)
  have hfpe : x.fp = x.B :: g :: vbs x.R := by unfold WtX.fp; rw [hv]; rfl
  have hnd := H.nd
  rw [hfpe, List.nodup_cons, List.nodup_cons] at hnd
  obtain ⟨n1, n2, n3⟩ := hnd
  have hgB : g ≠ x.B := fun e => n1 (by rw [← e]; exact List.mem_cons_self)
  have hgw := (H.types hgfp).2.1
  have hBw := (H.types hBfp).2.1
  have hM : Mut (fun j => j ∈ x.fp) w w5 := Mut.extL hx ((h1.mono (Y := fun j => j ∈ x.fp) (fun j e => by rw [e]; exact hgfp)).trans (h2.mono (Y := fun j => j ∈ x.fp) (fun j e => by rw [e]; exact hBfp)))
  have hk : Keep tH w w5 := Keep.of_mut hM fun j hj => (H.types hj).2.2
  have hoth : ∀ j, j < w3.heap.size → j ≠ g → j ≠ x.B → w5.heap[j]? = w3.heap[j]? := fun j hj a b => (h2.other j (Nat.lt_of_lt_of_le hj h1.size) b).trans (h1.other j hj a)
  have hvb : ∀ s ∈ x.R, OwnB base w5 s.u s.l := fun s hs => ownsRow_of (H.own s hs).2 (fun b hb => by
    have hin : b ∈ vbs x.R := vbs_mem.2 ⟨s, hs, hb⟩
    have hl := (H.types (fp_mem.2 (Or.inr (Or.inr ⟨s, hs, hb⟩)))).2.1
    exact (hoth b (Nat.lt_of_lt_of_le hl hx.size) (fun e => n2 (e ▸ hin)) (fun e => n1 (e ▸ List.mem_cons_of_mem _ hin))).trans (hx.block b hl))
  have hyo : OwnB base w5 y.u y.l := ownsRow_low (ownsRow_of ho (fun b hb => by
    have h9 := ho.lt b hb
    exact hoth b h9.2 (by omega) (by omega))) hb
  have hyb : ∀ b, y.u.ownBlock = some b → w.heap.size ≤ b := fun b hb => (ho.lt b hb).1
  have hfpn : ({ x with R := x.R.set p y, m := x.m + 1 } : WtX).fp = x.B :: g :: vbs (x.R.set p y) := by unfold WtX.fp; simp only; rw [hv]; rfl
  have hmem : ∀ b ∈ vbs (x.R.set p y), b ∈ vbs x.R ∨ w.heap.size ≤ b := fun b hb => by
    rw [vbs_set x.R p y hpl] at hb
    rw [vbs_at x.R p hpl]
    rcases List.mem_append.1 hb with hb | hb
    · rcases List.mem_append.1 hb with hb | hb
      · exact Or.inl (List.mem_append_left _ (List.mem_append_left _ hb))
      · exact Or.inr (hyb b (Option.mem_toList.1 hb))
    · exact Or.inl (List.mem_append_right _ hb)
  have hnv : (vbs (x.R.set p y)).Nodup := by
    rw [vbs_set x.R p y hpl]
    rw [vbs_at x.R p hpl] at n3
    have hlt : ∀ b ∈ vbs x.R, b < w.heap.size := fun b hb => by
      obtain ⟨s, hs, hg⟩ := vbs_mem.1 hb
      exact (H.types (fp_mem.2 (Or.inr (Or.inr ⟨s, hs, hg⟩)))).2.1
    rw [vbs_at x.R p hpl] at hlt
    refine nodup_swap n3 ?_ fun z hz => Or.inr ?_
    · cases y.u.ownBlock <;> simp
    · have := hyb z (Option.mem_toList.1 hz)
      exact ⟨fun h => by have := hlt z (List.mem_append_left _ (List.mem_append_left _ h)); omega, fun h => by have := hlt z (List.mem_append_right _ h); omega⟩
  refine ⟨⟨hd5, H.low, ?_, fun s hs => ?_, ownsRow_of H.kin (H.keep hk), H.kle, H.room1, H.room2, ?_, ?_, Or.inl ?_, ?_⟩, hM, fun b hb => ?_, ?_⟩
  · show w5.ownsRow base 30 6 x.rv (x.R.set p y).length (xs (x.R.set p y))
    rw [List.length_set]
    refine ownsRow_of hrow (fun b hb => ?_)
    rw [hv] at hb
    simp only [Value.ownBlock, Option.some.injEq] at hb
    subst hb
    exact h2.other g (Nat.lt_of_lt_of_le hgw (Nat.le_trans hx.size h1.size)) hgB
  · rcases List.mem_or_eq_of_mem_set hs with hs | rfl
    · exact ⟨(H.own s hs).1, hvb s hs⟩
    · exact ⟨hy, hyo⟩
  · show (x.R.set p y).length ≤ x.room
    rw [List.length_set]; exact H.fit
  · show x.m + 1 ≤ (x.R.set p y).length
    rw [List.length_set]; omega
  · show x.f < (x.R.set p y).length
    rw [List.length_set]
    rcases H.fl with h | ⟨h, _⟩
    · exact h
    · rw [h] at hm; simp at hm
  · rw [hfpn]
    refine List.nodup_cons.2 ⟨fun h => ?_, List.nodup_cons.2 ⟨fun h => ?_, hnv⟩⟩
    · rcases List.mem_cons.1 h with h | h
      · exact hgB h.symm
      · rcases hmem _ h with h | h
        · exact n1 (List.mem_cons_of_mem _ h)
        · omega
    · rcases hmem _ h with h | h
      · exact n2 h
      · omega
  · rw [hfpn] at hb
    rcases List.mem_cons.1 hb with rfl | hb
    · exact Or.inl hBfp
    · rcases List.mem_cons.1 hb with rfl | hb
      · exact Or.inl hgfp
      · rcases hmem b hb with h | h
        · exact Or.inl (by rw [hfpe]; exact List.mem_cons_of_mem _ (List.mem_cons_of_mem _ h))
        · exact Or.inr h
  · show List.map EvX.core (ringW (x.R.set p y) zX x.f (x.m + 1)) = List.map EvX.core (ringW x.R zX x.f x.m) ++ [y.core]
    rw [hp, ringW_put x.R zX y x.f x.m hm, List.map_append]
    rfl
end Go.Proofs.Ytnblbneehogadaa
