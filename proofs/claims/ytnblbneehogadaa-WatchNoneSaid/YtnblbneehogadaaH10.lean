import Derived.Test.YtnblbneehogadaaH10F
/- The contract of Add. -/
namespace Go.Proofs.Ytnblbneehogadaa
open Go.RowKit Go.ChangeMaps
theorem map_len {w : World} {mb : Nat} {es : Array MapEntry} {cl n : Nat} (h1 : w.heap[mb]? = some (.map es cl)) (h2 : es.size = n) (ty : TypeId) : (Builtin.len_ #[34] ty #[.map (some mb)]).run Try.prog w = .ok (.int .i64 (n : Nat)) w := by
  subst h2
  simp [Builtin.len_, Builtin.lenOf, run_underlying Try.underlying34, MapKept.run_getObj_map h1, Result.andThen, Sem.run_bind]
  rfl
theorem map_len0 (w : World) (ty : TypeId) : (Builtin.len_ #[34] ty #[.map none]).run Try.prog w = .ok (.int .i64 0) w := by
  simp [Builtin.len_, Builtin.lenOf, run_underlying Try.underlying34, Result.andThen, Sem.run_bind]
  rfl
theorem HubOk.rule {base : Nat} {w w' : World} {H : Nat} {mo : Option Nat} {L : List (Int × WtX)} (h : HubOk base w H mo L) {N : Nat} (hM : Mut (fun q => q = N) w w') {cs : Array Value} (hN : w.heap[N]? = some (.cells cs 24 (0, 0))) : HubOk base w' H mo L := by
  have tR : ¬ tH 24 := by unfold tH; decide
  have hne : ∀ (b : Nat) (cs' : Array Value) (U : TypeId), w.heap[b]? = some (.cells cs' U (0, 0)) → U ≠ 24 → w'.heap[b]? = w.heap[b]? := fun b cs' U hc hU => hM.other b (blk_lt hc) (fun e => by
    subst e
    rw [hN] at hc
    simp only [Option.some.injEq, Obj.cells.injEq] at hc
    exact hU hc.2.1.symm)
  refine h.frame (hne H _ _ h.hd (by decide)) (fun mb e => ?_) (fun p hp => ?_)
  · rcases h.mp with ⟨h0, _⟩ | ⟨mb', e', _, es, cl, h5, _⟩
    · rw [h0] at e; cases e
    · rw [e'] at e; cases e
      exact hM.other _ (blk_lt h5) (fun e => by subst e; rw [hN] at h5; cases h5)
  · have ho := h.oks p hp
    refine ho.frame (fun b hb => ?_) (fun g hg => ?_)
    · obtain ⟨_, _, cs', U, h1, h2⟩ := ho.types hb
      exact hne b cs' U h1 (fun e => tR (e ▸ h2))
    · obtain ⟨_, _, cs', h1⟩ := ho.kblk hg
      exact hne g cs' _ h1 (by decide)
set_option maxRecDepth 100000 in
set_option maxHeartbeats 1000000 in
theorem add_bad {base : Nat} {w : World} {H : Nat} {mo : Option Nat} {L : List (Int × WtX)} (_h : HubOk base w H mo L) (pre : ByteArray) (ka : Option Addr) (kc : Nat) (ks : List Int) (room : Int) (old : Bool) (hC : CellsAt w ka (ks.map (Value.int .i64))) (hn : ks.length ≤ 9223372036854775807) (hp : pre.size ≤ 9223372036854775807) (hv : validB pre ks room = false) :
    Calls Try.prog 17 #[.pointer (some ⟨H, 0, none⟩), .agg #[.string pre, .slice ka ks.length kc, .int .i64 room, .bool old]] w fun e w' => e = .returned (.tuple #[.int .i64 0, .int .i64 2]) ∧ Ext w w' := by
  have hx : Ext w (w.alloc (.cells #[.string pre, .slice ka ks.length kc, .int .i64 room, .bool old] 24)) := Ext.alloc (Below.refl _ _) _
  have cV : Box (∀ w', Ext w w' → Calls Try.prog 37 #[.agg #[.string pre, .slice ka ks.length kc, .int .i64 room, .bool old]] w' fun e w'' => e = .returned (.bool (validB pre ks room)) ∧ Ext w' w'') := ⟨fun w' hx => valid_any pre ka kc ks room old w' (CellsAt.ext hx hC) hn hp⟩
  rw [hv] at cV
  clear hC hv
  go_enter Try.func17, Try.ntmps17
  go_wp2_with (first | (go_at_call 37; (with_reducible refine (cV.out _ hx).mono ?_); rintro e w1 ⟨rfl, hb⟩; have hx := Ext.trans' hx hb))
  go_ret2
  exact ⟨rfl, hx⟩
theorem HubOk.mapLen {base : Nat} {w : World} {H : Nat} {mb : Nat} {L : List (Int × WtX)} (h : HubOk base w H (some mb) L) : ∃ es cl, w.heap[mb]? = some (.map es cl) ∧ es.size = L.length := by
  rcases h.mp with ⟨h0, _⟩ | ⟨mb', e', _, hm⟩
  · cases h0
  · cases e'
    obtain ⟨es, cl, h1, h2⟩ := hm.size
    exact ⟨es, cl, h1, by rw [h2, List.length_map]⟩
set_option maxRecDepth 100000 in
set_option maxHeartbeats 1000000 in
theorem add_full {base : Nat} {w : World} {H : Nat} {mo : Option Nat} {L : List (Int × WtX)} (h : HubOk base w H mo L) (pre : ByteArray) (ka : Option Addr) (kc : Nat) (ks : List Int) (room : Int) (old : Bool) (hC : CellsAt w ka (ks.map (Value.int .i64))) (hn : ks.length ≤ 9223372036854775807) (hp : pre.size ≤ 9223372036854775807) (hv : validB pre ks room = true) (hL : 64 ≤ L.length) :
    Calls Try.prog 17 #[.pointer (some ⟨H, 0, none⟩), .agg #[.string pre, .slice ka ks.length kc, .int .i64 room, .bool old]] w fun e w' => e = .returned (.tuple #[.int .i64 0, .int .i64 7]) ∧ Ext w w' := by
  have hx : Ext w (w.alloc (.cells #[.string pre, .slice ka ks.length kc, .int .i64 room, .bool old] 24)) := Ext.alloc (Below.refl _ _) _
  have cV : Box (∀ w', Ext w w' → Calls Try.prog 37 #[.agg #[.string pre, .slice ka ks.length kc, .int .i64 room, .bool old]] w' fun e w'' => e = .returned (.bool (validB pre ks room)) ∧ Ext w' w'') := ⟨fun w' hx => valid_any pre ka kc ks room old w' (CellsAt.ext hx hC) hn hp⟩
  rw [hv] at cV
  have HO := Box.mk h
  obtain ⟨mb, rfl⟩ : ∃ mb, mo = some mb := by
    rcases h.mp with ⟨_, h0⟩ | ⟨mb, e, _⟩
    · rw [h0] at hL; simp at hL
    · exact ⟨mb, e⟩
  have hLn : Box (∃ n : Nat, n = L.length ∧ decide ((64 : Int) ≤ (n : Int)) = true ∧ decide (64 ≤ n) = true) := ⟨⟨_, rfl, decide_eq_true (by omega), decide_eq_true hL⟩⟩
  clear hC hv h hL
  obtain ⟨n, hnl, d1, d2⟩ := hLn.out
  clear hLn
  replace hnl := Box.mk hnl
  go_enter Try.func17, Try.ntmps17
  go_wp2_with (first | (go_at_call 37; (with_reducible refine (cV.out _ hx).mono ?_); rintro e w1 ⟨rfl, hb⟩; have hx := Ext.trans' hx hb; have m0 : w1.cell? ⟨H, 0, none⟩ = some (.map (some mb)) := by { rw [Lib.cell_of_heap (HO.out.ext hx).hd]; rfl }; obtain ⟨es, cl, h1, h2⟩ := (HO.out.ext hx).mapLen; rw [← hnl.out] at h2; have hln := fun ty => map_len h1 h2 ty; clear h2))
  go_ret2
  exact ⟨rfl, hx⟩
theorem add_fin {base : Nat} {w4 w5 w6 : World} {H mb : Nat} {L : List (Int × WtX)} {i room : Nat} {pre : ByteArray} {kv : Value} {ks : List Int} {old : Bool} {M : List (Int × Value)} (h : HubOk base w4 H (some mb) L) (hx : Ext w4 w5) (hM : Mut (fun q => q = mb) w5 w6) (hm : MAt w6 mb (L.map ent ++ [(((i : Nat) : Int), .pointer (some ⟨w4.heap.size, 0, none⟩))]))
    (hd : w5.heap[w4.heap.size]? = some (.cells #[.string pre, kv, .int .i64 (room : Nat), .bool old, .slice none 0 0, .int .i64 0, .int .i64 0, .int .i64 0] 76 (0, 0))) (hmap : MAt w4 mb M) (hk : KRow base w4 kv ks) (h1 : ks.length ≤ 5) (h2 : 1 ≤ room) (h3 : room ≤ 1000) (hid : ((i : Nat) : Int) ∉ L.map (·.1)) :
    HubOk base w6 H (some mb) (L ++ [(((i : Nat) : Int), newW w4.heap.size pre kv ks room old)]) := by
  obtain ⟨es, cl, hmb, _⟩ := hmap
  have hlt := blk_lt hmb
  have hbB : base ≤ w4.heap.size := by
    rcases h.mp with ⟨h0, _⟩ | ⟨mb', e', h4, _⟩
    · cases h0
    · cases e'; omega
  have hd6 : w6.heap[w4.heap.size]? = _ := (hM.other w4.heap.size (blk_lt hd) (by omega)).trans hd
  refine h.add (Mut.extL hx hM) hm (newW_ok hd6 hbB (ownsRow_of hk (fun g hg => ?_)) h1 h2 h3) rfl (Nat.le_refl _) hid
  obtain ⟨cs, hg2⟩ := row_block hk g hg
  exact (hM.other g (Nat.lt_of_lt_of_le (blk_lt hg2) hx.size) (fun e => by subst e; rw [hg2] at hmb; cases hmb)).trans (hx.block g (blk_lt hg2))
/-- What Add returns. -/
def AdPost (base : Nat) (w : World) (H : Nat) (mo : Option Nat) (L : List (Int × WtX)) (pre : ByteArray) (ks : List Int) (room : Nat) (old : Bool) (e : Ending) (w' : World) : Prop :=
  ∃ (i mbx B : Nat) (kv : Value), e = .returned (.tuple #[.int .i64 (i : Nat), .int .i64 0]) ∧ ((i : Nat) : Int) ∉ L.map (·.1) ∧ (∀ k, k < i → ((k : Nat) : Int) ∈ L.map (·.1)) ∧ i ≤ L.length ∧ HubOk base w' H (some mbx) (L ++ [(((i : Nat) : Int), newW B pre kv ks room old)]) ∧ w.heap.size ≤ B ∧ (mo = some mbx ∨ w.heap.size ≤ mbx) ∧ Mut (fun q => q = H ∨ mo = some q) w w'
set_option maxRecDepth 100000 in
set_option maxHeartbeats 4000000 in
theorem add_ok {base : Nat} {w : World} {H : Nat} {mo : Option Nat} {L : List (Int × WtX)} (h : HubOk base w H mo L) (pre : ByteArray) (ka : Option Addr) (kc : Nat) (ks : List Int) (room : Nat) (old : Bool) (hC : CellsAt w ka (ks.map (Value.int .i64))) (hn : ks.length ≤ 9223372036854775807) (hp : pre.size ≤ 9223372036854775807) (hv : validB pre ks (room : Nat) = true) (hL : L.length < 64) (hb : base ≤ w.heap.size) :
    Calls Try.prog 17 #[.pointer (some ⟨H, 0, none⟩), .agg #[.string pre, .slice ka ks.length kc, .int .i64 (room : Nat), .bool old]] w (AdPost base w H mo L pre ks room old) := by
  have hx : Ext w (w.alloc (.cells #[.string pre, .slice ka ks.length kc, .int .i64 (room : Nat), .bool old] 24)) := Ext.alloc (Below.refl _ _) _
  have hE0 := newblk w (.cells #[.string pre, .slice ka ks.length kc, .int .i64 (room : Nat), .bool old] 24)
  have cV : Box (∀ w', Ext w w' → Calls Try.prog 37 #[.agg #[.string pre, .slice ka ks.length kc, .int .i64 (room : Nat), .bool old]] w' fun e w'' => e = .returned (.bool (validB pre ks (room : Nat))) ∧ Ext w' w'') := ⟨fun w' hx => valid_any pre ka kc ks (room : Nat) old w' (CellsAt.ext hx hC) hn hp⟩
  rw [hv] at cV
  have HO := Box.mk h
  obtain ⟨hk5, _, _, r, hr, hr1, hr2⟩ := valid_parts hv
  have hrr : room = r := by omega
  subst hrr
  replace hC := Box.mk hC
  obtain ⟨Post, hPost⟩ : ∃ P, P = AdPost base w H mo L pre ks room old := ⟨_, rfl⟩
  rw [← hPost]
  have HP := Box.mk hPost
  have hHl : H < w.heap.size := blk_lt h.hd
  clear hv h hPost hr
  obtain ⟨n, hnl, d1, d2⟩ : ∃ n : Nat, n = L.length ∧ decide ((64 : Int) ≤ (n : Int)) = false ∧ decide (64 ≤ n) = false := ⟨_, rfl, decide_eq_false (by omega), decide_eq_false (by omega)⟩
  replace hnl := Box.mk hnl
  obtain ⟨mo0, hmo⟩ : ∃ m, m = mo := ⟨_, rfl⟩
  rw [← hmo] at HP
  cases mo with
  | some mb =>
    have hcm : ∀ w, (binOp BinOp.eql 34 (.map (some mb)) (.map none)).run Try.prog w = .ok (.bool false) w := fun w => rfl
    go_enter Try.func17, Try.ntmps17
    go_upto_region 9 with (first | (go_at_call 37; (with_reducible refine (cV.out _ hx).mono ?_); rintro e w2 ⟨rfl, hbb⟩; have hx2 := Box.mk (Ext.trans' hx hbb); have hE2 := Box.mk (Ext.blk hbb hE0); have m0 : w2.cell? ⟨H, 0, none⟩ = some (.map (some mb)) := by { rw [Lib.cell_of_heap (HO.out.ext hx2.out).hd]; rfl }; obtain ⟨es, cl, h1, h2⟩ := (HO.out.ext hx2.out).mapLen; rw [← hnl.out] at h2; have hln := fun ty => map_len h1 h2 ty; clear h2))
    have hub2 := Box.mk (HO.out.ext hx2.out)
    have E2 := hE2
    have hC2 := Box.mk (CellsAt.ext hx2.out hC.out)
    have hMx : Box (Mut (fun q => q = H ∨ mo0 = some q) w w2) := ⟨Mut.of_ext hx2.out⟩
    have hmbx : mo0 = some mb ∨ w.heap.size ≤ mb := Or.inl hmo
    obtain ⟨mbx, rfl⟩ : ∃ mbx, mbx = mb := ⟨_, rfl⟩
    obtain ⟨N, hN⟩ : ∃ N, N = w.heap.size := ⟨_, rfl⟩
    rw [← hN] at E2
    simp only [← hN]
    have hNw : w.heap.size ≤ N := Nat.le_of_eq hN.symm
    have hb2 : base ≤ w2.heap.size := Nat.le_trans hb hMx.out.size
    clear hN hx hE0 hx2 hE2 m0 h1 hln hcm hmo hbb
    have m0 : w2.cell? ⟨H, 0, none⟩ = some (.map (some mbx)) := by rw [Lib.cell_of_heap hub2.out.hd]; rfl
    obtain ⟨u0, u1, u2, u3, _⟩ := blk4 E2.out
    have hlk := Box.mk (fun id : Int => hub2.out.look id)
    go_wp2
    go_loop [6] (fun iv => ∃ i : Nat, i ≤ L.length ∧ iv = .int .i64 (i : Nat) ∧ Box (∀ k, k < i → ((k : Nat) : Int) ∈ L.map (·.1))) (fun iv => L.length + 1 - (intOf iv).toNat)
    case atStart => exact ⟨0, Nat.zero_le _, rfl, ⟨fun k hk => by omega⟩⟩
    case round =>
      obtain ⟨i, hil, rfl, hall⟩ := hrel
      have hl1 := hlk.out ((i : Nat) : Int)
      by_cases hin : ((i : Nat) : Int) ∈ L.map (·.1)
      · obtain ⟨p, hp, hpe⟩ := List.mem_map.1 hin
        obtain ⟨j, hjl, hje⟩ := List.getElem_of_mem hp
        have hj : L[j]? = some (((i : Nat) : Int), p.2) := by rw [List.getElem?_eq_getElem hjl, hje, ← hpe]
        rw [getI_ent hub2.out.ids hj] at hl1
        simp only [Option.getD_some] at hl1
        have hall2 : ∀ k, k < i + 1 → ((k : Nat) : Int) ∈ L.map (·.1) := fun k hk => by
          by_cases e : k = i
          · subst e; exact hin
          · exact hall.out k (by omega)
        have hi1 : i + 1 ≤ L.length := by
          have := pig (i + 1) (L.map (·.1)) hall2
          rwa [List.length_map] at this
        have q1 : IntKind.i64.wrap (((i : Nat) : Int) + 1) = ((i : Nat) : Int) + 1 := by rw [IntKind.wrap_i64]; omega
        have hms : L.length + 1 - ((((i : Nat) : Int) + 1)).toNat < L.length + 1 - (((i : Nat) : Int)).toNat := by clear q1; omega
        replace hall2 := Box.mk hall2
        clear hin hpe hj
        go_wp2
        exact ⟨⟨i + 1, hi1, congrArg (Value.int .i64) (Int.natCast_succ i).symm, hall2⟩, hms⟩
      · rw [getI_no hin] at hl1
        simp only [Option.getD_none] at hl1
        replace hin := Box.mk hin
        have cK := Box.mk (kclone_any ka kc ks w2 hC2.out (by omega))
        go_upto_region 13 with (first
          | (go_at_call 38; (with_reducible refine (cK.out).mono ?_); rintro e w3 ⟨kv, rfl, hkr, hx3⟩; obtain ⟨va, vc, rfl⟩ := row_shape hkr; obtain ⟨u0, u1, u2, u3, _⟩ := blk4 (Ext.blk hx3 E2.out); have z1 : w3.frozen? ⟨N, 1, none⟩ = false := Lib.frozen_of_heap (Ext.blk hx3 E2.out) 1; have m0 : w3.cell? ⟨H, 0, none⟩ = some (.map (some mbx)) := Ext.cell hx3 m0))
        have hE4 : (w3.setCell ⟨N, 1, none⟩ (.slice va ks.length vc)).heap[N]? = some (.cells #[.string pre, .slice va ks.length vc, .int .i64 room, .bool old] 24 (0, 0)) := heap_setCell_same w3 N 1 _ _ _ (Ext.blk hx3 E2.out)
        have hM4 : Mut (fun q => q = N) w3 (w3.setCell ⟨N, 1, none⟩ (.slice va ks.length vc)) := Mut.put w3 ⟨N, 1, none⟩ _ rfl
        have hub4 : HubOk base (w3.setCell ⟨N, 1, none⟩ (.slice va ks.length vc)) H (some mbx) L := (hub2.out.ext hx3).rule hM4 (Ext.blk hx3 E2.out)
        have hkr4 : KRow w2.heap.size (w3.setCell ⟨N, 1, none⟩ (.slice va ks.length vc)) (.slice va ks.length vc) ks := ownsRow_of hkr (fun g hg => hM4.other g (hkr.lt g hg).2 (fun e => by have := (hkr.lt g hg).1; have := blk_lt E2.out; omega))
        have hM24 : Mut (fun q => q = N) w2 (w3.setCell ⟨N, 1, none⟩ (.slice va ks.length vc)) := Mut.extL hx3 hM4
        replace hE4 := Box.mk hE4; replace hub4 := Box.mk hub4; replace hkr4 := Box.mk hkr4; replace hM24 := Box.mk hM24
        clear m0 u0 u1 u2 u3 z1 hM4 hkr hx3 hl1
        generalize w3.setCell ⟨N, 1, none⟩ (.slice va ks.length vc) = w4 at *
        have m0 : w4.cell? ⟨H, 0, none⟩ = some (.map (some mbx)) := by rw [Lib.cell_of_heap hub4.out.hd]; rfl
        obtain ⟨u0, u1, u2, u3, _⟩ := blk4 hE4.out
        have hx5 : Ext w4 (w4.alloc (.cells #[.string pre, .slice va ks.length vc, .int .i64 (room : Nat), .bool old, .slice none 0 0, .int .i64 0, .int .i64 0, .int .i64 0] 76)).drew := Ext.drew1 (Ext.alloc (Below.refl _ w4) _)
        have hd5 : (w4.alloc (.cells #[.string pre, .slice va ks.length vc, .int .i64 (room : Nat), .bool old, .slice none 0 0, .int .i64 0, .int .i64 0, .int .i64 0] 76)).drew.heap[w4.heap.size]? = some (.cells #[.string pre, .slice va ks.length vc, .int .i64 (room : Nat), .bool old, .slice none 0 0, .int .i64 0, .int .i64 0, .int .i64 0] 76 (0, 0)) := newblk w4 _
        obtain ⟨hlow, hmap⟩ : base ≤ mbx ∧ MAt w4 mbx (L.map ent) := by
          rcases hub4.out.mp with ⟨h0, _⟩ | ⟨mb', e', h4, h5⟩
          · cases h0
          · cases e'; exact ⟨h4, h5⟩
        have hmlt : mbx < w4.heap.size := by obtain ⟨es, cl, h1, _⟩ := hmap; exact blk_lt h1
        obtain ⟨o, hrun, hmap6⟩ := iPut (hmap.of (hx5.block mbx hmlt)) ((i : Nat) : Int) (.pointer (some ⟨w4.heap.size, 0, none⟩)) (by rw [List.map_map]; exact hin.out)
        have hM6 := Mut.block (w4.alloc (.cells #[.string pre, .slice va ks.length vc, .int .i64 (room : Nat), .bool old, .slice none 0 0, .int .i64 0, .int .i64 0, .int .i64 0] 76)).drew mbx o
        have hH6 : ∀ v, w4.cell? ⟨H, 0, none⟩ = some v → (setBlock (w4.alloc (.cells #[.string pre, .slice va ks.length vc, .int .i64 (room : Nat), .bool old, .slice none 0 0, .int .i64 0, .int .i64 0, .int .i64 0] 76)).drew mbx o).cell? ⟨H, 0, none⟩ = some v := fun v hv9 => by
          have h1 := Ext.cell hx5 hv9
          rw [cell_of_block (hM6.other H (lt_of_cell h1) (fun e => by
            have h2 := hub4.out.hd
            obtain ⟨es, cl, h3, _⟩ := hmap
            rw [e, h3] at h2
            cases h2)) 0]
          exact h1
        have hN6 : ∀ j v, w4.cell? ⟨N, j, none⟩ = some v → (setBlock (w4.alloc (.cells #[.string pre, .slice va ks.length vc, .int .i64 (room : Nat), .bool old, .slice none 0 0, .int .i64 0, .int .i64 0, .int .i64 0] 76)).drew mbx o).cell? ⟨N, j, none⟩ = some v := fun j v hv9 => by
          have h1 := Ext.cell hx5 hv9
          rw [cell_of_block (hM6.other N (lt_of_cell h1) (fun e => by
            have h2 := hE4.out
            obtain ⟨es, cl, h3, _⟩ := hmap
            rw [e, h3] at h2
            cases h2)) j]
          exact h1
        have hfin := add_fin hub4.out hx5 hM6 hmap6 hd5 hmap (ownsRow_low hkr4.out hb2) hk5 hr1 hr2 hin.out
        have hMf : Mut (fun q => q = H ∨ mo0 = some q) w (setBlock (w4.alloc (.cells #[.string pre, .slice va ks.length vc, .int .i64 (room : Nat), .bool old, .slice none 0 0, .int .i64 0, .int .i64 0, .int .i64 0] 76)).drew mbx o) := by
          have h1 := hMx.out.comp hM24.out (fun q e => Or.inr (by rw [e]; exact hNw))
          refine (h1.extR hx5).comp hM6 (fun q e => ?_)
          rw [e]
          rcases hmbx with h | h
          · exact Or.inl (Or.inr h)
          · exact Or.inr h
        have hszf : w.heap.size ≤ w4.heap.size := Nat.le_trans hMx.out.size hM24.out.size
        replace hfin := Box.mk hfin; replace hMf := Box.mk hMf; replace hH6 := Box.mk hH6; replace hN6 := Box.mk hN6
        clear hM6 hmap6 hmap hd5 hx5
        go_region_held3 (fun w' => w'.cell? ⟨H, 0, none⟩ = some (.map (some mbx)) ∧ (w'.cell? ⟨N, 0, none⟩ = some (.string pre) ∧ w'.cell? ⟨N, 1, none⟩ = some (.slice va ks.length vc) ∧ w'.cell? ⟨N, 2, none⟩ = some (.int .i64 (room : Nat)) ∧ w'.cell? ⟨N, 3, none⟩ = some (.bool old)))
          (first
            | (with_reducible exact ⟨keepd m0, keepd u0, keepd u1, keepd u2, keepd u3⟩)
            | (with_reducible exact ⟨keepN m0, keepN u0, keepN u1, keepN u2, keepN u3⟩)
            | (with_reducible exact ⟨hH6.out _ m0, hN6.out _ _ u0, hN6.out _ _ u1, hN6.out _ _ u2, hN6.out _ _ u3⟩))
          (fail)
        clear m0 u0 u1 u2 u3
        generalize setBlock (w4.alloc (.cells #[.string pre, .slice va ks.length vc, .int .i64 (room : Nat), .bool old, .slice none 0 0, .int .i64 0, .int .i64 0, .int .i64 0] 76)).drew mbx o = w6 at *
        go_wp2
        rw [HP.out]
        exact ⟨i, mbx, w4.heap.size, .slice va ks.length vc, rfl, hin.out, hall.out, hil, hfin.out, hszf, hmbx, hMf.out⟩
  | none =>
    have hL0 : L = [] := by
      rcases HO.out.mp with ⟨_, h0⟩ | ⟨mb, e, _⟩
      · exact h0
      · cases e
    have hcm : ∀ w, (binOp BinOp.eql 34 (.map none) (.map none)).run Try.prog w = .ok (.bool true) w := fun w => rfl
    have hln := fun w ty => map_len0 w ty
    go_enter Try.func17, Try.ntmps17
    go_upto_region 8 with (first | (go_at_call 37; (with_reducible refine (cV.out _ hx).mono ?_); rintro e w1 ⟨rfl, hbb⟩; have hx1 := Box.mk (Ext.trans' hx hbb); have hE1 := Box.mk (Ext.blk hbb hE0); have m0 : w1.cell? ⟨H, 0, none⟩ = some (.map none) := by { rw [Lib.cell_of_heap (HO.out.ext hx1.out).hd]; rfl }))
    have hz1 : w1.frozen? ⟨H, 0, none⟩ = false := Lib.frozen_of_heap (HO.out.ext hx1.out).hd 0
    have hH1 : H < w1.heap.size := Nat.lt_of_lt_of_le hHl hx1.out.size
    have hmk : (Instr.makeMap 34 none).run Try.prog w1 = .ok (.map (some w1.heap.size)) (w1.alloc (.map #[] 0)) := rfl
    go_upto_region 9 with (fail)
    have hd2 : (w1.setCell ⟨H, 0, none⟩ (.map (some w1.heap.size))).heap[H]? = some (.cells #[.map (some w1.heap.size)] 36 (0, 0)) := heap_setCell_same w1 H 0 _ _ _ (HO.out.ext hx1.out).hd
    have hMp := Mut.put w1 ⟨H, 0, none⟩ (.map (some w1.heap.size)) (X := fun q => q = H) rfl
    have hs2 : (w1.setCell ⟨H, 0, none⟩ (.map (some w1.heap.size))).heap.size = w1.heap.size := by simp
    have hx3 : Ext (w1.setCell ⟨H, 0, none⟩ (.map (some w1.heap.size))) ((w1.setCell ⟨H, 0, none⟩ (.map (some w1.heap.size))).alloc (.map #[] 0)) := Ext.alloc (Below.refl _ _) _
    have hmp := newblk (w1.setCell ⟨H, 0, none⟩ (.map (some w1.heap.size))) (.map #[] 0)
    rw [hs2] at hmp
    have hub2 : Box (HubOk base ((w1.setCell ⟨H, 0, none⟩ (.map (some w1.heap.size))).alloc (.map #[] 0)) H (some w1.heap.size) L) := ⟨by
      refine ⟨Ext.blk hx3 hd2, HO.out.low, Or.inr ⟨w1.heap.size, rfl, Nat.le_trans hb hx1.out.size, #[], 0, hmp, ?_⟩, HO.out.ids, ?_, HO.out.nd⟩
      · rw [hL0]; exact ⟨rfl, fun e he => (by cases he), List.nodup_nil⟩
      · rw [hL0]; exact fun p hp => (by cases hp)⟩
    have hM2 : Mut (fun q => q = H) w ((w1.setCell ⟨H, 0, none⟩ (.map (some w1.heap.size))).alloc (.map #[] 0)) := (Mut.extL hx1.out hMp).extR hx3
    have hHN : H ≠ w.heap.size := by omega
    have E2 : Box (((w1.setCell ⟨H, 0, none⟩ (.map (some w1.heap.size))).alloc (.map #[] 0)).heap[w.heap.size]? = some (.cells #[.string pre, .slice ka ks.length kc, .int .i64 (room : Nat), .bool old] 24 (0, 0))) := ⟨Ext.blk hx3 ((hMp.other _ (blk_lt hE1.out) (fun e => hHN e.symm)).trans hE1.out)⟩
    have hC2 : Box (CellsAt ((w1.setCell ⟨H, 0, none⟩ (.map (some w1.heap.size))).alloc (.map #[] 0)) ka (ks.map (Value.int .i64))) := ⟨fun j u hj => by
      obtain ⟨b, o, h1, h2⟩ := hC.out j u hj
      refine ⟨b, o, h1, ?_⟩
      have hbH : b ≠ H := fun e => by
        subst e
        rw [Lib.cell_of_heap HO.out.hd] at h2
        have hu : ∃ z, u = .int .i64 z := by
          obtain ⟨z, _, rfl⟩ := List.mem_map.1 (List.mem_of_getElem? hj)
          exact ⟨z, rfl⟩
        obtain ⟨z, rfl⟩ := hu
        cases ho : o + j with
        | zero => rw [ho] at h2; cases h2
        | succ q => rw [ho] at h2; simp at h2
      exact Ext.cell hx3 ((World.cell?_setCell_far w1 ⟨H, 0, none⟩ ⟨b, o + j, none⟩ _ (fun e => hbH e.symm)).trans (Ext.cell hx1.out h2))⟩
    have hMx : Box (Mut (fun q => q = H ∨ mo0 = some q) w ((w1.setCell ⟨H, 0, none⟩ (.map (some w1.heap.size))).alloc (.map #[] 0))) := ⟨hM2.mono (fun q e => Or.inl e)⟩
    have hmbx : mo0 = some w1.heap.size ∨ w.heap.size ≤ w1.heap.size := Or.inr hx1.out.size
    obtain ⟨mbx, hmb⟩ : ∃ mbx, mbx = w1.heap.size := ⟨_, rfl⟩
    rw [← hmb] at hub2 E2 hC2 hMx hmbx
    simp only [← hmb]
    generalize ((w1.setCell ⟨H, 0, none⟩ (.map (some mbx))).alloc (.map #[] 0)) = w2 at *
    obtain ⟨N, hN⟩ : ∃ N, N = w.heap.size := ⟨_, rfl⟩
    rw [← hN] at E2
    simp only [← hN]
    have hNw : w.heap.size ≤ N := Nat.le_of_eq hN.symm
    have hb2 : base ≤ w2.heap.size := Nat.le_trans hb hMx.out.size
    clear hN hx hE0 hx1 hE1 m0 hln hcm hmo hbb hL0 hmk hd2 hMp hs2 hx3 hmp hM2 hHN hmb hz1 hH1
    have m0 : w2.cell? ⟨H, 0, none⟩ = some (.map (some mbx)) := by rw [Lib.cell_of_heap hub2.out.hd]; rfl
    obtain ⟨u0, u1, u2, u3, _⟩ := blk4 E2.out
    have hlk := Box.mk (fun id : Int => hub2.out.look id)
    go_wp2
    go_loop [6] (fun iv => ∃ i : Nat, i ≤ L.length ∧ iv = .int .i64 (i : Nat) ∧ Box (∀ k, k < i → ((k : Nat) : Int) ∈ L.map (·.1))) (fun iv => L.length + 1 - (intOf iv).toNat)
    case atStart => exact ⟨0, Nat.zero_le _, rfl, ⟨fun k hk => by omega⟩⟩
    case round =>
      obtain ⟨i, hil, rfl, hall⟩ := hrel
      have hl1 := hlk.out ((i : Nat) : Int)
      by_cases hin : ((i : Nat) : Int) ∈ L.map (·.1)
      · obtain ⟨p, hp, hpe⟩ := List.mem_map.1 hin
        obtain ⟨j, hjl, hje⟩ := List.getElem_of_mem hp
        have hj : L[j]? = some (((i : Nat) : Int), p.2) := by rw [List.getElem?_eq_getElem hjl, hje, ← hpe]
        rw [getI_ent hub2.out.ids hj] at hl1
        simp only [Option.getD_some] at hl1
        have hall2 : ∀ k, k < i + 1 → ((k : Nat) : Int) ∈ L.map (·.1) := fun k hk => by
          by_cases e : k = i
          · subst e; exact hin
          · exact hall.out k (by omega)
        have hi1 : i + 1 ≤ L.length := by
          have := pig (i + 1) (L.map (·.1)) hall2
          rwa [List.length_map] at this
        have q1 : IntKind.i64.wrap (((i : Nat) : Int) + 1) = ((i : Nat) : Int) + 1 := by rw [IntKind.wrap_i64]; omega
        have hms : L.length + 1 - ((((i : Nat) : Int) + 1)).toNat < L.length + 1 - (((i : Nat) : Int)).toNat := by clear q1; omega
        replace hall2 := Box.mk hall2
        clear hin hpe hj
        go_wp2
        exact ⟨⟨i + 1, hi1, congrArg (Value.int .i64) (Int.natCast_succ i).symm, hall2⟩, hms⟩
      · rw [getI_no hin] at hl1
        simp only [Option.getD_none] at hl1
        replace hin := Box.mk hin
        have cK := Box.mk (kclone_any ka kc ks w2 hC2.out (by omega))
        go_upto_region 13 with (first
          | (go_at_call 38; (with_reducible refine (cK.out).mono ?_); rintro e w3 ⟨kv, rfl, hkr, hx3⟩; obtain ⟨va, vc, rfl⟩ := row_shape hkr; obtain ⟨u0, u1, u2, u3, _⟩ := blk4 (Ext.blk hx3 E2.out); have z1 : w3.frozen? ⟨N, 1, none⟩ = false := Lib.frozen_of_heap (Ext.blk hx3 E2.out) 1; have m0 : w3.cell? ⟨H, 0, none⟩ = some (.map (some mbx)) := Ext.cell hx3 m0))
        have hE4 : (w3.setCell ⟨N, 1, none⟩ (.slice va ks.length vc)).heap[N]? = some (.cells #[.string pre, .slice va ks.length vc, .int .i64 room, .bool old] 24 (0, 0)) := heap_setCell_same w3 N 1 _ _ _ (Ext.blk hx3 E2.out)
        have hM4 : Mut (fun q => q = N) w3 (w3.setCell ⟨N, 1, none⟩ (.slice va ks.length vc)) := Mut.put w3 ⟨N, 1, none⟩ _ rfl
        have hub4 : HubOk base (w3.setCell ⟨N, 1, none⟩ (.slice va ks.length vc)) H (some mbx) L := (hub2.out.ext hx3).rule hM4 (Ext.blk hx3 E2.out)
        have hkr4 : KRow w2.heap.size (w3.setCell ⟨N, 1, none⟩ (.slice va ks.length vc)) (.slice va ks.length vc) ks := ownsRow_of hkr (fun g hg => hM4.other g (hkr.lt g hg).2 (fun e => by have := (hkr.lt g hg).1; have := blk_lt E2.out; omega))
        have hM24 : Mut (fun q => q = N) w2 (w3.setCell ⟨N, 1, none⟩ (.slice va ks.length vc)) := Mut.extL hx3 hM4
        replace hE4 := Box.mk hE4; replace hub4 := Box.mk hub4; replace hkr4 := Box.mk hkr4; replace hM24 := Box.mk hM24
        clear m0 u0 u1 u2 u3 z1 hM4 hkr hx3 hl1
        generalize w3.setCell ⟨N, 1, none⟩ (.slice va ks.length vc) = w4 at *
        have m0 : w4.cell? ⟨H, 0, none⟩ = some (.map (some mbx)) := by rw [Lib.cell_of_heap hub4.out.hd]; rfl
        obtain ⟨u0, u1, u2, u3, _⟩ := blk4 hE4.out
        have hx5 : Ext w4 (w4.alloc (.cells #[.string pre, .slice va ks.length vc, .int .i64 (room : Nat), .bool old, .slice none 0 0, .int .i64 0, .int .i64 0, .int .i64 0] 76)).drew := Ext.drew1 (Ext.alloc (Below.refl _ w4) _)
        have hd5 : (w4.alloc (.cells #[.string pre, .slice va ks.length vc, .int .i64 (room : Nat), .bool old, .slice none 0 0, .int .i64 0, .int .i64 0, .int .i64 0] 76)).drew.heap[w4.heap.size]? = some (.cells #[.string pre, .slice va ks.length vc, .int .i64 (room : Nat), .bool old, .slice none 0 0, .int .i64 0, .int .i64 0, .int .i64 0] 76 (0, 0)) := newblk w4 _
        obtain ⟨hlow, hmap⟩ : base ≤ mbx ∧ MAt w4 mbx (L.map ent) := by
          rcases hub4.out.mp with ⟨h0, _⟩ | ⟨mb', e', h4, h5⟩
          · cases h0
          · cases e'; exact ⟨h4, h5⟩
        have hmlt : mbx < w4.heap.size := by obtain ⟨es, cl, h1, _⟩ := hmap; exact blk_lt h1
        obtain ⟨o, hrun, hmap6⟩ := iPut (hmap.of (hx5.block mbx hmlt)) ((i : Nat) : Int) (.pointer (some ⟨w4.heap.size, 0, none⟩)) (by rw [List.map_map]; exact hin.out)
        have hM6 := Mut.block (w4.alloc (.cells #[.string pre, .slice va ks.length vc, .int .i64 (room : Nat), .bool old, .slice none 0 0, .int .i64 0, .int .i64 0, .int .i64 0] 76)).drew mbx o
        have hH6 : ∀ v, w4.cell? ⟨H, 0, none⟩ = some v → (setBlock (w4.alloc (.cells #[.string pre, .slice va ks.length vc, .int .i64 (room : Nat), .bool old, .slice none 0 0, .int .i64 0, .int .i64 0, .int .i64 0] 76)).drew mbx o).cell? ⟨H, 0, none⟩ = some v := fun v hv9 => by
          have h1 := Ext.cell hx5 hv9
          rw [cell_of_block (hM6.other H (lt_of_cell h1) (fun e => by
            have h2 := hub4.out.hd
            obtain ⟨es, cl, h3, _⟩ := hmap
            rw [e, h3] at h2
            cases h2)) 0]
          exact h1
        have hN6 : ∀ j v, w4.cell? ⟨N, j, none⟩ = some v → (setBlock (w4.alloc (.cells #[.string pre, .slice va ks.length vc, .int .i64 (room : Nat), .bool old, .slice none 0 0, .int .i64 0, .int .i64 0, .int .i64 0] 76)).drew mbx o).cell? ⟨N, j, none⟩ = some v := fun j v hv9 => by
          have h1 := Ext.cell hx5 hv9
          rw [cell_of_block (hM6.other N (lt_of_cell h1) (fun e => by
            have h2 := hE4.out
            obtain ⟨es, cl, h3, _⟩ := hmap
            rw [e, h3] at h2
            cases h2)) j]
          exact h1
        have hfin := add_fin hub4.out hx5 hM6 hmap6 hd5 hmap (ownsRow_low hkr4.out hb2) hk5 hr1 hr2 hin.out
        have hMf : Mut (fun q => q = H ∨ mo0 = some q) w (setBlock (w4.alloc (.cells #[.string pre, .slice va ks.length vc, .int .i64 (room : Nat), .bool old, .slice none 0 0, .int .i64 0, .int .i64 0, .int .i64 0] 76)).drew mbx o) := by
          have h1 := hMx.out.comp hM24.out (fun q e => Or.inr (by rw [e]; exact hNw))
          refine (h1.extR hx5).comp hM6 (fun q e => ?_)
          rw [e]
          rcases hmbx with h | h
          · exact Or.inl (Or.inr h)
          · exact Or.inr h
        have hszf : w.heap.size ≤ w4.heap.size := Nat.le_trans hMx.out.size hM24.out.size
        replace hfin := Box.mk hfin; replace hMf := Box.mk hMf; replace hH6 := Box.mk hH6; replace hN6 := Box.mk hN6
        clear hM6 hmap6 hmap hd5 hx5
        go_region_held3 (fun w' => w'.cell? ⟨H, 0, none⟩ = some (.map (some mbx)) ∧ (w'.cell? ⟨N, 0, none⟩ = some (.string pre) ∧ w'.cell? ⟨N, 1, none⟩ = some (.slice va ks.length vc) ∧ w'.cell? ⟨N, 2, none⟩ = some (.int .i64 (room : Nat)) ∧ w'.cell? ⟨N, 3, none⟩ = some (.bool old)))
          (first
            | (with_reducible exact ⟨keepd m0, keepd u0, keepd u1, keepd u2, keepd u3⟩)
            | (with_reducible exact ⟨keepN m0, keepN u0, keepN u1, keepN u2, keepN u3⟩)
            | (with_reducible exact ⟨hH6.out _ m0, hN6.out _ _ u0, hN6.out _ _ u1, hN6.out _ _ u2, hN6.out _ _ u3⟩))
          (fail)
        clear m0 u0 u1 u2 u3
        generalize setBlock (w4.alloc (.cells #[.string pre, .slice va ks.length vc, .int .i64 (room : Nat), .bool old, .slice none 0 0, .int .i64 0, .int .i64 0, .int .i64 0] 76)).drew mbx o = w6 at *
        go_wp2
        rw [HP.out]
        exact ⟨i, mbx, w4.heap.size, .slice va ks.length vc, rfl, hin.out, hall.out, hil, hfin.out, hszf, hmbx, hMf.out⟩
end Go.Proofs.Ytnblbneehogadaa
