import Derived.Test.YtnblbneehogadaaH7
/- Contracts: Lost, Remove, Take; Publish, Take, Lost, Remove where they err. -/
namespace Go.Proofs.Ytnblbneehogadaa
open Go.RowKit Go.ChangeMaps
set_option maxHeartbeats 1000000 in
theorem lost_ok {base : Nat} {w : World} {H : Nat} {mo : Option Nat} {L : List (Int × WtX)} (h : HubOk base w H mo L) {j : Nat} {id : Int} {x : WtX} (hj : L[j]? = some (id, x)) :
    Calls Try.prog 21 #[.pointer (some ⟨H, 0, none⟩), .int .i64 id] w fun e w' => e = .returned (.tuple #[.int .i64 (x.lost : Nat), .int .i64 0]) ∧ w = w' := by
  have c1 := Box.mk (find_ok h hj)
  have hx := h.oks _ (List.mem_of_getElem? hj)
  obtain ⟨m0, m1, m2, m3, m4, m5, m6, m7⟩ := blk8 hx.hd
  clear h hj hx
  go_enter Try.func21, Try.ntmps21
  go_wp2_with (first | (go_at_call 39; (with_reducible refine (c1.out).mono ?_); rintro e w' ⟨rfl, rfl⟩))
  go_ret2
  exact ⟨rfl, rfl⟩
set_option maxHeartbeats 1000000 in
theorem lost_no {base : Nat} {w : World} {H : Nat} {mo : Option Nat} {L : List (Int × WtX)} (h : HubOk base w H mo L) {id : Int} (hid : id ∉ L.map (·.1)) :
    Calls Try.prog 21 #[.pointer (some ⟨H, 0, none⟩), .int .i64 id] w fun e w' => e = .returned (.tuple #[.int .i64 0, .int .i64 9]) ∧ w = w' := by
  have c1 := Box.mk (find_no h hid)
  clear h hid
  go_enter Try.func21, Try.ntmps21
  go_wp2_with (first | (go_at_call 39; (with_reducible refine (c1.out).mono ?_); rintro e w' ⟨rfl, rfl⟩))
  go_ret2
  exact ⟨rfl, rfl⟩
theorem erase_fp {L : List (Int × WtX)} (j : Nat) : (fpL (L.eraseIdx j)).Sublist (fpL L) := by
  induction L generalizing j with
  | nil => exact List.Sublist.refl _
  | cons p L ih =>
    cases j with
    | zero => exact List.sublist_append_right _ _
    | succ j => exact (List.Sublist.refl p.2.fp).append (ih j)
/-- One watcher leaves. -/
theorem HubOk.del {base : Nat} {w w' : World} {H mb : Nat} {L : List (Int × WtX)} (h : HubOk base w H (some mb) L) (j : Nat) (hM : Mut (fun q => q = mb) w w') (hm : MAt w' mb ((L.map ent).eraseIdx j)) : HubOk base w' H (some mb) (L.eraseIdx j) := by
  have hmb : ∃ es cl, w.heap[mb]? = some (.map es cl) := by
    rcases h.mp with ⟨h0, _⟩ | ⟨mb', e', _, es, cl, h5, _⟩
    · cases h0
    · cases e'; exact ⟨es, cl, h5⟩
  obtain ⟨es, cl, hb⟩ := hmb
  have hne : ∀ (b : Nat) (cs : Array Value) (U : TypeId), w.heap[b]? = some (.cells cs U (0, 0)) → w'.heap[b]? = w.heap[b]? := fun b cs U hc => hM.other b (blk_lt hc) (fun e => by subst e; rw [hb] at hc; cases hc)
  have hlow : base ≤ mb := by
    rcases h.mp with ⟨h0, _⟩ | ⟨mb', e', h4, _⟩
    · cases h0
    · cases e'; exact h4
  refine ⟨(hne H _ _ h.hd).trans h.hd, h.low, Or.inr ⟨mb, rfl, hlow, by rw [erase_map]; exact hm⟩, ?_, fun p hp => ?_, h.nd.sublist (erase_fp j)⟩
  · rw [erase_map]
    exact h.ids.sublist (List.eraseIdx_sublist _ _)
  · have ho := h.oks p (List.mem_of_mem_eraseIdx hp)
    refine ho.frame (fun b hb => ?_) (fun g hg => ?_)
    · obtain ⟨_, _, cs, U, h1, _⟩ := ho.types hb
      exact hne b cs U h1
    · obtain ⟨_, _, cs, h1⟩ := ho.kblk hg
      exact hne g cs _ h1
set_option maxHeartbeats 2000000 in
theorem remove_ok {base : Nat} {w : World} {H : Nat} {mo : Option Nat} {L : List (Int × WtX)} (h : HubOk base w H mo L) {j : Nat} {id : Int} {x : WtX} (hj : L[j]? = some (id, x)) :
    Calls Try.prog 22 #[.pointer (some ⟨H, 0, none⟩), .int .i64 id] w fun e w' => e = .returned (.tuple #[.int .i64 (x.m : Nat), .int .i64 0]) ∧ HubOk base w' H mo (L.eraseIdx j) ∧ ∃ mb, mo = some mb ∧ base ≤ mb ∧ Mut (fun q => q = mb) w w' := by
  have c1 := Box.mk (find_ok h hj)
  have hx := h.oks _ (List.mem_of_getElem? hj)
  obtain ⟨mb, rfl, hlow, hm⟩ : ∃ mb, mo = some mb ∧ base ≤ mb ∧ MAt w mb (L.map ent) := by
    rcases h.mp with ⟨_, h0⟩ | ⟨mb, e', h4, h5⟩
    · rw [h0] at hj; simp at hj
    · exact ⟨mb, e', h4, h5⟩
  obtain ⟨o, hr, hm2⟩ := iDel (ty := 0) hm (by rw [List.map_map]; exact h.ids) j id (.pointer (some ⟨x.B, 0, none⟩)) (by rw [List.getElem?_map, hj]; rfl)
  have hM := Mut.block w mb o
  have hD := h.del j hM hm2
  have m0 : w.cell? ⟨H, 0, none⟩ = some (.map (some mb)) := by rw [Lib.cell_of_heap h.hd]; rfl
  have hxB : (setBlock w mb o).heap[x.B]? = w.heap[x.B]? := by
    refine hM.other _ (blk_lt hx.hd) (fun e => ?_)
    obtain ⟨es, cl, h1, _⟩ := hm
    have h2 := hx.hd
    rw [show (id, x).2.B = mb from e, h1] at h2
    cases h2
  obtain ⟨q0, q1, q2, q3, q4, q5, q6, q7⟩ := blk8 (hxB.trans hx.hd)
  have HD := Box.mk hD; have HM := Box.mk hM
  clear h hj hx hm hm2 hM hD hxB
  generalize setBlock w mb o = w2 at *
  go_enter Try.func22, Try.ntmps22
  go_wp2_with (first | (go_at_call 39; (with_reducible refine (c1.out).mono ?_); rintro e w' ⟨rfl, rfl⟩))
  go_ret2
  exact ⟨rfl, HD.out, mb, rfl, hlow, HM.out⟩
set_option maxHeartbeats 1000000 in
theorem remove_no {base : Nat} {w : World} {H : Nat} {mo : Option Nat} {L : List (Int × WtX)} (h : HubOk base w H mo L) {id : Int} (hid : id ∉ L.map (·.1)) :
    Calls Try.prog 22 #[.pointer (some ⟨H, 0, none⟩), .int .i64 id] w fun e w' => e = .returned (.tuple #[.int .i64 0, .int .i64 9]) ∧ w = w' := by
  have c1 := Box.mk (find_no h hid)
  clear h hid
  go_enter Try.func22, Try.ntmps22
  go_wp2_with (first | (go_at_call 39; (with_reducible refine (c1.out).mono ?_); rintro e w' ⟨rfl, rfl⟩))
  go_ret2
  exact ⟨rfl, rfl⟩
set_option maxHeartbeats 1000000 in
theorem publish_bad {base : Nat} {w : World} {H : Nat} {mo : Option Nat} {L : List (Int × WtX)} (h : HubOk base w H mo L) (v : Value) (X : List EvX) (hX : Xs w v X) (hok : allOk X = false) :
    Calls Try.prog 13 #[.pointer (some ⟨H, 0, none⟩), v] w fun e w' => e = .returned (.tuple #[.int .i64 0, .int .i64 2]) ∧ Ext w w' := by
  have c1 := Box.mk (bcontains_any v X w hX)
  rw [hok] at c1
  obtain ⟨a, c, rfl, _⟩ := hX
  clear h hok
  go_enter Try.func13, Try.ntmps13
  go_wp2_with (first
    | (go_at_call 33; (with_reducible refine (c1.out).mono ?_); rintro e w1 ⟨rfl, hb1⟩))
  go_ret2
  exact ⟨rfl, hb1⟩
set_option maxHeartbeats 1000000 in
theorem publish_long {base : Nat} {w : World} {H : Nat} {mo : Option Nat} {L : List (Int × WtX)} (h : HubOk base w H mo L) (v : Value) (X : List EvX) (hX : Xs w v X) (hok : allOk X = true) (hn : 4096 < X.length) :
    Calls Try.prog 13 #[.pointer (some ⟨H, 0, none⟩), v] w fun e w' => e = .returned (.tuple #[.int .i64 0, .int .i64 5]) ∧ Ext w w' := by
  have c1 := Box.mk (bcontains_any v X w hX)
  rw [hok] at c1
  obtain ⟨a, c, rfl, _⟩ := hX
  have d1 : decide ((X.length : Int) > 4096) = true := decide_eq_true (by omega)
  have d2 : decide ((4096 : Int) < (X.length : Int)) = true := decide_eq_true (by omega)
  have d3 : decide (4096 < X.length) = true := decide_eq_true hn
  clear h hok
  generalize X.length = n at *
  go_enter Try.func13, Try.ntmps13
  go_wp2_with (first
    | (go_at_call 33; (with_reducible refine (c1.out).mono ?_); rintro e w1 ⟨rfl, hb1⟩))
  go_ret2
  exact ⟨rfl, hb1⟩
theorem Mut.grow {X : Nat → Prop} {a b c : World} (h : Mut X a b) {row : Option Nat} (hg : b.grownBy c row) (hr : ∀ g, row = some g → a.heap.size ≤ g) : Mut X a c :=
  ⟨Nat.le_trans h.size hg.size, fun j hj hx => (hg.block j (Nat.lt_of_lt_of_le hj h.size) (fun e => by have := hr j e.symm; omega)).trans (h.other j hj hx), fun w0 h0 h1 => Below.grown (h.ext w0 h0 h1) hg (Nat.le_trans h0.size h.size) (fun k hk => Nat.le_trans h0.size (hr k hk))⟩
/-- What Take returns. -/
def TaPost (base : Nat) (w : World) (x : WtX) (k : Nat) (e : Ending) (w' : World) : Prop :=
  ∃ (v : Value) (T : List EvX) (x' : WtX), e = .returned (.tuple #[v, .int .i64 0]) ∧ T.length = min k x.m ∧ w'.ownsRow w.heap.size 30 6 v T.length (xs T) ∧ (∀ s ∈ T, s.In ∧ OwnB base w' s.u s.l) ∧ x.wait = T.map EvX.core ++ x'.wait ∧
    x'.B = x.B ∧ x'.pre = x.pre ∧ x'.kv = x.kv ∧ x'.ks = x.ks ∧ x'.room = x.room ∧ x'.old = x.old ∧ x'.lost = x.lost ∧ WOk base w' x' ∧ Mut (fun j => j ∈ x.fp) w w' ∧ (∀ b ∈ x'.fp, b ∈ x.fp) ∧ (vbs T).Nodup ∧ ∀ b ∈ vbs T, b ∈ x.fp ∧ b ∉ x'.fp
structure TaR (base : Nat) (w wr : World) (x : WtX) (v : Value) (T : List EvX) (x' : WtX) : Prop where
  row : wr.ownsRow w.heap.size 30 6 v T.length (xs T)
  own : ∀ s ∈ T, s.In ∧ OwnB base wr s.u s.l
  wt : x.wait = T.map EvX.core ++ x'.wait
  st : x'.B = x.B ∧ x'.pre = x.pre ∧ x'.kv = x.kv ∧ x'.ks = x.ks ∧ x'.room = x.room ∧ x'.old = x.old ∧ x'.lost = x.lost
  wok : WOk base wr x'
  mu : Mut (fun j => j ∈ x.fp) w wr
  fp : ∀ b ∈ x'.fp, b ∈ x.fp
  nd : (vbs T).Nodup
  vb : ∀ b ∈ vbs T, b ∈ x.fp ∧ b ∉ x'.fp
theorem TaR.len {base : Nat} {w wr : World} {x x' : WtX} {v : Value} {T : List EvX} (h : TaR base w wr x v T x') : T.length + x'.m = x.m := by
  have := congrArg List.length h.wt
  rw [wait_len, List.length_append, List.length_map, wait_len] at this
  omega
set_option maxRecDepth 100000 in
set_option maxHeartbeats 4000000 in
theorem htake_any {base : Nat} {w : World} {H : Nat} {mo : Option Nat} {L : List (Int × WtX)} (h : HubOk base w H mo L) {j : Nat} {id : Int} {x : WtX} (hj : L[j]? = some (id, x)) (k : Nat) (hk : k ≤ 9223372036854775807) :
    Calls Try.prog 19 #[.pointer (some ⟨H, 0, none⟩), .int .i64 id, .int .i64 (k : Nat)] w (TaPost base w x k) := by
  obtain ⟨i0, hi, hz0, hz1, hz2⟩ := info_parts infoEvt
  have c1 := Box.mk (find_ok h hj)
  have hx := h.oks (id, x) (List.mem_of_getElem? hj)
  have hm1 : x.m ≤ 1000 := by
    have h1 := hx.mle; have h2 := hx.fit; have h3 := hx.room2
    have h1' : x.m ≤ x.R.length := h1
    have h2' : x.R.length ≤ x.room := h2
    have h3' : x.room ≤ 1000 := h3
    omega
  have hfl : Box (∀ b ∈ x.fp, b < w.heap.size) := ⟨fun b hb => (hx.types hb).2.1⟩
  have hR0 : Box (TaR base w w x (.slice none 0 0) [] x) := ⟨⟨World.ownsRow_nil _ _ _ _, fun s hs => (by cases hs), rfl, ⟨rfl, rfl, rfl, rfl, rfl, rfl, rfl⟩, hx, Mut.refl _ _, fun b hb => hb, List.nodup_nil, fun b hb => (by cases hb)⟩⟩
  obtain ⟨Post, hPost⟩ : ∃ P, P = TaPost base w x k := ⟨_, rfl⟩
  rw [← hPost]
  have HP := Box.mk hPost
  have k0 : decide ((k : Int) < 0) = false := decide_eq_false (by omega)
  clear hPost h hj hx
  go_enter Try.func19, Try.ntmps19
  go_wp2_with (first | (go_at_call 39; (with_reducible refine (c1.out).mono ?_); rintro e w' ⟨rfl, rfl⟩))
  go_loopw [10] (fun ov wr => ∃ (T : List EvX) (x' : WtX), T.length ≤ k ∧ Box (TaR base w wr x ov T x')) (fun ov _ => match ov with | .slice _ t _ => k - t | _ => 0)
  case atStart => exact ⟨[], x, Nat.zero_le _, hR0⟩
  case round =>
    obtain ⟨T, x', hTk, hR⟩ := hrel
    obtain ⟨oa, oc, rfl⟩ := row_shape hR.out.row
    have hB := hR.out.st.1
    have hd := hR.out.wok.hd
    rw [hB] at hd
    obtain ⟨m0, m1, m2, m3, m4, m5, m6, m7⟩ := blk8 hd
    have hTl := hR.out.len
    by_cases hmz : 0 < x'.m
    · have e1 : decide ((0 : Int) < (x'.m : Int)) = true := decide_eq_true (by omega)
      have e2 : decide (0 < x'.m) = true := decide_eq_true hmz
      by_cases hlt : T.length < k
      · have e3 : decide ((T.length : Int) < (k : Int)) = true := decide_eq_true (by omega)
        have e4 : decide (T.length < k) = true := decide_eq_true hlt
        have cT : Box (Calls Try.prog 40 #[.pointer (some ⟨x.B, 0, none⟩)] wr fun e w' => ∃ (y : EvX) (ua : Option Addr) (uc : Nat), y.u = .slice ua y.l.length uc ∧ e = .returned (.agg #[.int .i64 y.k, .string y.s, .slice ua y.l.length uc, .int .u64 y.b, .int .u64 y.d, .int .u64 y.t]) ∧ Ext w w ∧ w.heap.size ≤ w'.heap.size ∧ w'.ownsRow w.heap.size 30 6 (.slice oa T.length oc) T.length (xs T) ∧ ∃ x2 : WtX, ∀ (v3 : Value) (w3 : World), w3.ownsRow w.heap.size 30 6 v3 (T.length + 1) (xs T ++ [.int .i64 y.k, .string y.s, .slice ua y.l.length uc, .int .u64 y.b, .int .u64 y.d, .int .u64 y.t]) → w'.grownBy w3 (Value.ownBlock (.slice oa T.length oc)) → TaR base w w3 x v3 (T ++ [y]) x2) := ⟨by
          have h1 := take_any base x' wr hR.out.wok hmz
          rw [hB] at h1
          refine h1.mono ?_
          rintro e w' ⟨y, he, hyi, hyo, x2, a1, a2, a3, a4, a5, a6, a7, a8, a9, a10, a11, a12, a13, a14⟩
          obtain ⟨ua, uc, hu⟩ := hyo.shape
          have hrow' : w'.ownsRow w.heap.size 30 6 (.slice oa T.length oc) T.length (xs T) := ownsRow_of hR.out.row (fun g hg => by
            have h2 := hR.out.row.lt g hg
            exact a12.other g h2.2 (fun h => by have := hfl.out g (hR.out.fp g h); omega))
          refine ⟨y, ua, uc, hu, by rw [he, hu], Below.refl _ _, Nat.le_trans hR.out.mu.size a12.size, hrow', x2, fun v3 w3 h3 h4 => ?_⟩
          obtain ⟨s1, s2, s3, s4, s5, s6, s7⟩ := hR.out.st
          have hob : ∀ g, Value.ownBlock (.slice oa T.length oc) = some g → w.heap.size ≤ g := fun g hg => (hR.out.row.lt g hg).1
          have hsame : ∀ b, b < w.heap.size → w3.heap[b]? = w'.heap[b]? := fun b hb => h4.block b (Nat.lt_of_lt_of_le hb (Nat.le_trans hR.out.mu.size a12.size)) (fun e => by have := hob b e.symm; omega)
          have hkeep : ∀ b, b ∈ x.fp → w3.heap[b]? = w'.heap[b]? := fun b hb => hsame b (hfl.out b hb)
          have hm3 : Mut (fun j => j ∈ x.fp) w w' := hR.out.mu.comp a12 (fun b hb => Or.inl (hR.out.fp b hb))
          have hx23 : Ext w w := Below.refl _ _
          have hmw3 : Mut (fun j => j ∈ x.fp) w w3 := hm3.grow h4 hob
          refine ⟨?_, fun s hs => ?_, ?_, ⟨a1.trans s1, a2.trans s2, a3.trans s3, a4.trans s4, a5.trans s5, a6.trans s6, a7.trans s7⟩, a11.frame (fun b hb => hkeep b (hR.out.fp b (a13 b hb))) (fun g hg => ?_), hmw3, fun b hb => hR.out.fp b (a13 b hb), ?_, fun b hb => ?_⟩
          · rw [List.length_append, xs_app]
            have : xs [y] = xC y := by simp [xs]
            rw [this]
            unfold xC
            rw [hu]
            exact h3
          · rcases List.mem_append.1 hs with hs | hs
            · refine ⟨(hR.out.own s hs).1, ownsRow_of (hR.out.own s hs).2 (fun g hg => ?_)⟩
              obtain ⟨g1, g2⟩ := hR.out.vb g (vbs_mem.2 ⟨s, hs, hg⟩)
              exact (hkeep g g1).trans (a12.other g (Nat.lt_of_lt_of_le (hfl.out g g1) hR.out.mu.size) g2)
            · simp only [List.mem_singleton] at hs
              subst hs
              exact ⟨hyi, ownsRow_of hyo (fun g hg => hkeep g (hR.out.fp g (a14 g hg).1))⟩
          · rw [hR.out.wt, a10, List.map_append, List.append_assoc]
            rfl
          · have h9 := a11.kblk hg
            refine h4.block g h9.2.1 (fun e => ?_)
            obtain ⟨cs1, h10⟩ := row_block hrow' g e.symm
            obtain ⟨cs2, h11⟩ := h9.2.2
            rw [h11] at h10
            simp only [Option.some.injEq, Obj.cells.injEq] at h10
            exact absurd h10.2.1 (by decide)
          · rw [vbs_app, vbs_cons]
            refine List.nodup_append.2 ⟨hR.out.nd, by cases y.u.ownBlock <;> simp [vbs], fun b hb c hc e => ?_⟩
            subst e
            have hc' : y.u.ownBlock = some b := by
              have hc2 : b ∈ y.u.ownBlock.toList ++ ([] : List Nat) := hc
              rw [List.append_nil] at hc2
              exact Option.mem_toList.1 hc2
            exact (hR.out.vb b hb).2 (a14 b hc').1
          · rw [vbs_app, vbs_cons] at hb
            rcases List.mem_append.1 hb with hb | hb
            · exact ⟨(hR.out.vb b hb).1, fun h => (hR.out.vb b hb).2 (a13 b h)⟩
            · have hc' : y.u.ownBlock = some b := by
                have hc2 : b ∈ y.u.ownBlock.toList ++ ([] : List Nat) := hb
                rw [List.append_nil] at hc2
                exact Option.mem_toList.1 hc2
              exact ⟨hR.out.fp b (a14 b hc').1, (a14 b hc').2⟩⟩
        have hTx := Box.mk hTl
        have hbyte : (T.length + 1) * 72 ≤ 140737488355328 := by omega
        have hlen5 : T.length + 1 ≤ 140737488355328 := by omega
        have hms : k - (T.length + 1) < k - T.length := by omega
        clear hTl hd
        go_wp2_with (first
          | (go_at_call 40; (with_reducible refine (cT.out).mono ?_); rintro e w2 ⟨y, ua, uc, hu, rfl, _, hzz, hown2, x2, hnext⟩; replace hnext := Box.mk hnext; clear hu m0 m1 m2 m3 m4 m5 m6 m7)
          | (at_builtin; refine wpList_push rfl _ _ 38 rfl w.heap.size 30 i0 _ 6 72 Try.underlying38 hi hz0 hz1 hz2 rfl (by decide) _ _ _ rfl hown2 [.int .i64 y.k, .string y.s, .slice ua y.l.length uc, .int .u64 y.b, .int .u64 y.d, .int .u64 y.t] rfl rfl (by simp [Value.oneCell']) hlen5 hbyte hzz ?_; intro v1 w3 hown3 hg3 hbel3 hs3))
        have hR' := hnext.out v1 w3 hown3 hg3
        obtain ⟨a3, c3, rfl⟩ := row_shape hown3
        exact ⟨⟨T ++ [y], x2, by rw [List.length_append]; exact hlt, ⟨hR'⟩⟩, hms⟩
      · have e3 : decide ((T.length : Int) < (k : Int)) = false := decide_eq_false (by omega)
        have e4 : decide (T.length < k) = false := decide_eq_false hlt
        have hfin : Box (TaPost base w x k (.returned (.tuple #[.slice oa T.length oc, .int .i64 0])) wr) := ⟨⟨_, T, x', rfl, by omega, hR.out.row, hR.out.own, hR.out.wt, hR.out.st.1, hR.out.st.2.1, hR.out.st.2.2.1, hR.out.st.2.2.2.1, hR.out.st.2.2.2.2.1, hR.out.st.2.2.2.2.2.1, hR.out.st.2.2.2.2.2.2, hR.out.wok, hR.out.mu, hR.out.fp, hR.out.nd, hR.out.vb⟩⟩
        clear hTl
        go_wp2
        rw [HP.out]
        exact hfin.out
    · have e1 : decide ((0 : Int) < (x'.m : Int)) = false := decide_eq_false (by omega)
      have e2 : decide (0 < x'.m) = false := decide_eq_false hmz
      have hfin : Box (TaPost base w x k (.returned (.tuple #[.slice oa T.length oc, .int .i64 0])) wr) := ⟨⟨_, T, x', rfl, by omega, hR.out.row, hR.out.own, hR.out.wt, hR.out.st.1, hR.out.st.2.1, hR.out.st.2.2.1, hR.out.st.2.2.2.1, hR.out.st.2.2.2.2.1, hR.out.st.2.2.2.2.2.1, hR.out.st.2.2.2.2.2.2, hR.out.wok, hR.out.mu, hR.out.fp, hR.out.nd, hR.out.vb⟩⟩
      clear hTl
      go_wp2
      rw [HP.out]
      exact hfin.out
end Go.Proofs.Ytnblbneehogadaa
