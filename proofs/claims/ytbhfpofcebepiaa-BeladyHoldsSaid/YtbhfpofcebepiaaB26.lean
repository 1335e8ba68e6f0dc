import Derived.Test.YtbhfpofcebepiaaB25
/- The contract of belady.Check. -/
namespace Go.Proofs.Ytbhfpofcebepiaa
open Go.RowKit Go.ChangeMaps
/-- The keys that are there ahead of a request. -/
def chkS (tr : List Nat) (ts : List TnB) : Nat → List Nat
  | 0 => []
  | i + 1 => nxC (chkS tr ts i) (keyB tr i) (tnB ts i)
def lnA : Op := Op.call { callee := Callee.builtin Builtin.len, args := #[Operand.tmp 40], argTypes := #[73] }
def gtA : Op := Op.binOp BinOp.gtr 3 (Operand.tmp 41) (Operand.tmp 42) 3
def mvA : Op := Op.move (Operand.tmp 9)
def mvB : Op := Op.move (Operand.tmp 1)
def goodB (tr : List Nat) (k : Nat) (ts : List TnB) (i : Nat) : Bool := okB (chkS tr ts i) (keyB tr i) (tnB ts i) && decide ((chkS tr ts (i + 1)).length ≤ k)
theorem delOf_nodup {C : List Nat} (h : C.Nodup) (l : Bool) (o : Nat) : (delOf l o C).Nodup := by
  unfold delOf
  split
  · exact woB_nodup _ h
  · exact h
theorem chkS_nodup (tr : List Nat) (ts : List TnB) : ∀ i, (chkS tr ts i).Nodup
  | 0 => List.nodup_nil
  | i + 1 => by
    have ih := chkS_nodup tr ts i
    show (nxC _ _ _).Nodup
    unfold nxC
    split
    · exact delOf_nodup ih _ _
    · exact snoc_nodup (delOf_nodup ih _ _) ‹_›
theorem Check_bad (a b : Option Addr) (n c m d : Nat) (size : Int) (w : World) (h : allB n 4096 size ≠ 0) :
    Calls Try.prog 19 #[.slice a n c, .int .i64 size, .slice b m d] w fun e w' => e = .returned (.tuple #[.int .i64 0, .int .i64 (allB n 4096 size)]) ∧ w = w' := by
  have c1 : Box (∀ w, Calls Try.prog 29 #[.slice a n c, .int .i64 4096, .int .i64 size] w fun e w' => e = .returned (.int .i64 (allB n 4096 size)) ∧ w = w') := ⟨fun w => allowed_any a n c 4096 size w⟩
  generalize allB n 4096 size = e0 at *
  have n1 : (e0 != 0) = true := by simpa using h
  clear h
  go_enter Try.func19, Try.ntmps19
  go_wp2_with (first | (go_at_call 29; (with_reducible refine (c1.out _).mono ?_); rintro e w' ⟨rfl, rfl⟩))
  go_ret2
  exact ⟨rfl, rfl⟩
theorem Check_len (a b : Option Addr) (n c m d : Nat) (size : Int) (w : World) (h : allB n 4096 size = 0) (hm : m ≠ n) :
    Calls Try.prog 19 #[.slice a n c, .int .i64 size, .slice b m d] w fun e w' => e = .returned (.tuple #[.int .i64 0, .int .i64 2]) ∧ w = w' := by
  have c1 : Box (∀ w, Calls Try.prog 29 #[.slice a n c, .int .i64 4096, .int .i64 size] w fun e w' => e = .returned (.int .i64 0) ∧ w = w') := ⟨fun w => by
    have := allowed_any a n c 4096 size w
    rw [h] at this
    exact this⟩
  have n1 : ((m : Int) != (n : Int)) = true := by rw [bne_iff_ne]; omega
  have n2 : (m != n) = true := by rw [bne_iff_ne]; exact hm
  clear h hm
  go_enter Try.func19, Try.ntmps19
  go_wp2_with (first | (go_at_call 29; (with_reducible refine (c1.out _).mono ?_); rintro e w' ⟨rfl, rfl⟩))
  go_ret2
  exact ⟨rfl, rfl⟩
set_option maxRecDepth 100000 in
set_option maxHeartbeats 8000000 in
theorem Check_any (a b : Option Addr) (c d : Nat) (L : List Nat) (ts : List TnB) (k : Nat) (w : World) (hL : L.length ≤ 4096) (hts : ts.length = L.length) (h1 : 1 ≤ k) (h2 : k ≤ 1024) (hC : CellsAt w a (u32L L)) (hD : CellsAt w b (rows TnB.cs ts))
    (r : Bool) (hr : r = true ↔ ∀ i, i < L.length → goodB L k ts i = true) :
    Calls Try.prog 19 #[.slice a L.length c, .int .i64 (k : Nat), .slice b ts.length d] w fun e w' => e = .returned (if r then (.tuple #[.int .i64 (polH ts L.length : Nat), .int .i64 0]) else (.tuple #[.int .i64 0, .int .i64 10])) ∧ Ext w w' := by
  have hmm := @run_makeMap Try.prog
  have c1 : Box (∀ w, Calls Try.prog 29 #[.slice a L.length c, .int .i64 4096, .int .i64 (k : Nat)] w fun e w' => e = .returned (.int .i64 0) ∧ w = w') := ⟨fun w => by
    have := allowed_any a L.length c 4096 k w
    rw [show allB L.length 4096 k = 0 by unfold allB; rw [if_neg (by omega), if_neg (by omega)]] at this
    exact this⟩
  have c2 : Box (∀ w', Ext w w' → Calls Try.prog 38 #[.slice b ts.length d] w' fun e w'' => e = .returned (.int .i64 (polH ts ts.length : Nat)) ∧ Ext w' w'') := ⟨fun w' hx => count_any b d ts w' (by omega) (CellsAt.keep hx hD)⟩
  rw [hts] at c2 ⊢
  replace hC := Box.mk hC
  replace hD := Box.mk hD
  replace hr := Box.mk hr
  have hstart : Box (Ext w (w.alloc (.map #[] 0)) ∧ BAt (w.alloc (.map #[] 0)) w.heap.size (chkS L ts 0)) := ⟨Ext.alloc (Below.refl _ _) _, #[], 0, newblk w _, ⟨rfl, (fun e he => by cases he), List.nodup_nil⟩⟩
  go_enter Try.func19, Try.ntmps19
  go_wp2_with (first | (go_at_call 29; (with_reducible refine (c1.out _).mono ?_); rintro e w' ⟨rfl, rfl⟩))
  go_loopw [26] (fun i wr => ∃ t : Nat, t ≤ L.length ∧ i = .int .i64 t ∧ Box (∀ j, j < t → goodB L k ts j = true) ∧ Box (Ext w wr ∧ BAt wr w.heap.size (chkS L ts t))) (fun i _ => L.length - (intOf i).toNat)
  case atStart => exact ⟨0, by omega, rfl, ⟨fun j h => absurd h (by omega)⟩, hstart⟩
  case round =>
    obtain ⟨t, ht, rfl, hA, hR⟩ := hrel
    by_cases htn : t < L.length
    · have n0 : (0 : Int) ≤ (t : Int) := by omega
      have n1 : (t : Int) < (L.length : Int) := by omega
      have n2 : decide ((t : Int) < (L.length : Int)) = true := decide_eq_true n1
      have n3 : decide (t < L.length) = true := decide_eq_true htn
      have n4 : IntKind.i64.wrap ((t : Int) + 1) = (t : Int) + 1 := b64_one (by omega)
      obtain ⟨hx, hB⟩ := hR.out
      obtain ⟨b1, o1, rfl, hcell⟩ := CellsAt.keep hx hC.out t _ (u32L_at htn)
      rw [keyB_get L t htn] at hcell
      obtain ⟨b2, o2, rfl, r1⟩ := rows_row TnB.cs 3 (fun _ => rfl) (by decide) (CellsAt.keep hx hD.out) t (by rw [hts]; exact htn)
      have p0 : wr.cell? ⟨b2, o2 + t * 3, none⟩ = some (.bool (tnB ts t).hit) := by
        have := r1 0 _ rfl
        rw [tnB_get] at this; exact this
      have p1 : wr.cell? ⟨b2, o2 + t * 3 + 1, none⟩ = some (.bool (tnB ts t).left) := by
        have := r1 1 _ rfl
        rw [tnB_get] at this; exact this
      have p2 : wr.cell? ⟨b2, o2 + t * 3 + 2, none⟩ = some (.int .u32 ((tnB ts t).out : Nat)) := by
        have := r1 2 _ rfl
        rw [tnB_get] at this; exact this
      have hxA : Ext wr (wr.alloc (.cells #[.bool (tnB ts t).hit, .bool (tnB ts t).left, .int .u32 ((tnB ts t).out : Nat)] 50)).drew := Ext.drew1 (Ext.alloc (Below.refl _ _) _)
      have hBl : w.heap.size < wr.heap.size := by obtain ⟨_, _, q, _⟩ := hB; exact blk_lt q
      have cT := Box.mk (turn_any w.heap.size (chkS L ts t) (keyB L t) (tnB ts t) _ (chkS_nodup L ts t) (hB.of (hxA.block _ hBl)))
      have hXb := Ext.blk (Ext.drew1 (Below.refl _ _) : Ext (wr.alloc (.cells #[.bool (tnB ts t).hit, .bool (tnB ts t).left, .int .u32 ((tnB ts t).out : Nat)] 50)) (wr.alloc (.cells #[.bool (tnB ts t).hit, .bool (tnB ts t).left, .int .u32 ((tnB ts t).out : Nat)] 50)).drew) (newblk wr (.cells #[.bool (tnB ts t).hit, .bool (tnB ts t).left, .int .u32 ((tnB ts t).out : Nat)] 50))
      have hnext : chkS L ts (t + 1) = nxC (chkS L ts t) (keyB L t) (tnB ts t) := rfl
      have hgood : goodB L k ts t = (okB (chkS L ts t) (keyB L t) (tnB ts t) && decide ((chkS L ts (t + 1)).length ≤ k)) := rfl
      have hcA := Ext.cell hxA hcell
      have hfacts : Box (∀ w5, KeepB w.heap.size (wr.alloc (.cells #[.bool (tnB ts t).hit, .bool (tnB ts t).left, .int .u32 ((tnB ts t).out : Nat)] 50)).drew w5 → (w5.cell? ⟨b1, o1 + t, none⟩ = some (.int .u32 (keyB L t : Nat)) ∧ w5.cell? ⟨wr.heap.size, 0, none⟩ = some (.bool (tnB ts t).hit) ∧ w5.cell? ⟨wr.heap.size, 1, none⟩ = some (.bool (tnB ts t).left) ∧ w5.cell? ⟨wr.heap.size, 2, none⟩ = some (.int .u32 ((tnB ts t).out : Nat))) ∧ Ext w w5) := ⟨fun w5 h5 => by
        have hne1 : b1 ≠ w.heap.size := by
          obtain ⟨_, _, q, _⟩ := hB
          exact not_map q hcell
        have hb5 := (h5.block wr.heap.size (blk_lt hXb) (by omega)).trans hXb
        obtain ⟨y0, y1, y2⟩ := cells3 hb5
        exact ⟨⟨h5.cell hne1 hcA, y0, y1, y2⟩, (Ext.trans' hx hxA).keepB h5 (Nat.le_refl _)⟩⟩
      have hS0 := (hfacts.out _ (KeepB.of_ext (Below.refl _ _))).1
      replace hx := Box.mk hx
      replace hB := Box.mk hB
      clear r1 hXb hcA hxA hR
      cases hok : okB (chkS L ts t) (keyB L t) (tnB ts t) with
      | false =>
        rw [hok] at cT hgood
        have hrf : r = false := by
          cases r with
          | false => rfl
          | true =>
            have := hr.out.1 rfl t htn
            rw [hgood] at this
            simp at this
        clear hok hnext hgood
        generalize chkS L ts t = C at *
        generalize keyB L t = x at *
        generalize tnB ts t = y at *
        obtain ⟨hit, left, out⟩ := y
        dsimp only at *
        obtain ⟨s0, s1, s2, s3⟩ := hS0
        go_wp2
        rw [show Op.move (Operand.tmp 9) = mvA from rfl, show Op.move (Operand.tmp 1) = mvB from rfl, show Op.call { callee := Callee.builtin Builtin.len, args := #[Operand.tmp 40], argTypes := #[73] } = lnA from rfl, show Op.binOp BinOp.gtr 3 (Operand.tmp 41) (Operand.tmp 42) 3 = gtA from rfl]
        have hopA : mvA = Op.move (Operand.tmp 9) := rfl
        have hopB : mvB = Op.move (Operand.tmp 1) := rfl
        have hopC : lnA = Op.call { callee := Callee.builtin Builtin.len, args := #[Operand.tmp 40], argTypes := #[73] } := rfl
        have hopD : gtA = Op.binOp BinOp.gtr 3 (Operand.tmp 41) (Operand.tmp 42) 3 := rfl
        go_region_held3 (fun w' => w'.cell? ⟨b1, o1 + t, none⟩ = some (.int .u32 (x : Nat)) ∧ w'.cell? ⟨wr.heap.size, 0, none⟩ = some (.bool hit) ∧ w'.cell? ⟨wr.heap.size, 1, none⟩ = some (.bool left) ∧ w'.cell? ⟨wr.heap.size, 2, none⟩ = some (.int .u32 (out : Nat)))
          (first
            | (with_reducible exact ⟨s0, s1, s2, s3⟩)
            | (with_reducible exact q5))
          (first
            | (go_at_call 41; (with_reducible refine (cT.out).mono ?_); rintro e w5 ⟨rfl, k5, b5⟩; obtain ⟨q5, x5⟩ := hfacts.out w5 k5; replace k5 := Box.mk k5; replace b5 := Box.mk b5; replace x5 := Box.mk x5))
        all_goals go_wp2
        all_goals go_ret2
        all_goals (subst hrf; exact ⟨rfl, x5.out⟩)
      | true =>
        rw [hok] at cT hgood
        rw [if_pos rfl] at cT
        rw [Bool.true_and] at hgood
        have hlen : Box (∀ w5, BAt w5 w.heap.size (nxC (chkS L ts t) (keyB L t) (tnB ts t)) → (Builtin.len_ #[73] 3 #[.map (some w.heap.size)]).run Try.prog w5 = .ok (goInt ((chkS L ts (t + 1)).length : Nat)) w5) := ⟨fun w5 h5 => by
          obtain ⟨en, cn, hnm, hsz⟩ := h5.size
          have hl := run_len_map (w := w5) (P := Try.prog) 73 3 w.heap.size en cn Try.underlying73 hnm
          rw [hsz, ← hnext] at hl
          exact hl⟩
        have hstep : Box (∀ w5, Ext w w5 → BAt w5 w.heap.size (nxC (chkS L ts t) (keyB L t) (tnB ts t)) → goodB L k ts t = true → (∀ j, j < t + 1 → goodB L k ts j = true) ∧ Ext w w5 ∧ BAt w5 w.heap.size (chkS L ts (t + 1))) := ⟨fun w5 x5 h5 hg => ⟨fun j hj => by
          by_cases e : j = t
          · subst e; exact hg
          · exact hA.out j (by omega), x5, h5⟩⟩
        by_cases hfit : (chkS L ts (t + 1)).length ≤ k
        · rw [decide_eq_true hfit] at hgood
          have hg1 : decide (((chkS L ts (t + 1)).length : Int) > (k : Int)) = false := decide_eq_false (by omega)
          have hg2 : decide ((k : Int) < ((chkS L ts (t + 1)).length : Int)) = false := decide_eq_false (by omega)
          have hg3 : decide (k < (chkS L ts (t + 1)).length) = false := decide_eq_false (by omega)
          replace hgood := Box.mk hgood
          clear hok hnext hfit
          generalize hnx : nxC (chkS L ts t) (keyB L t) (tnB ts t) = C2 at *
          generalize (chkS L ts (t + 1)).length = cl at *
          replace hnx := Box.mk hnx
          generalize keyB L t = x at *
          generalize tnB ts t = y at *
          obtain ⟨hit, left, out⟩ := y
          dsimp only at *
          obtain ⟨s0, s1, s2, s3⟩ := hS0
          go_wp2
          rw [show Op.call { callee := Callee.builtin Builtin.len, args := #[Operand.tmp 40], argTypes := #[73] } = lnA from rfl]
          have hopC : lnA = Op.call { callee := Callee.builtin Builtin.len, args := #[Operand.tmp 40], argTypes := #[73] } := rfl
          go_region_held3 (fun w' => w'.cell? ⟨b1, o1 + t, none⟩ = some (.int .u32 (x : Nat)) ∧ w'.cell? ⟨wr.heap.size, 0, none⟩ = some (.bool hit) ∧ w'.cell? ⟨wr.heap.size, 1, none⟩ = some (.bool left) ∧ w'.cell? ⟨wr.heap.size, 2, none⟩ = some (.int .u32 (out : Nat)))
            (first
              | (with_reducible exact ⟨s0, s1, s2, s3⟩)
              | (with_reducible exact q5))
            (first
              | (go_at_call 41; (with_reducible refine (cT.out).mono ?_); rintro e w5 ⟨rfl, k5, b5⟩; obtain ⟨q5, x5⟩ := hfacts.out w5 k5; have hl5 := hlen.out w5 b5; replace k5 := Box.mk k5; replace b5 := Box.mk b5; replace x5 := Box.mk x5))
          all_goals go_wp2
          all_goals go_roundw
          all_goals
            obtain ⟨z1, z2, z3⟩ := hstep.out w5 x5.out b5.out hgood.out
          case rel => exact ⟨t + 1, by omega, by go_num, ⟨z1⟩, ⟨z2, z3⟩⟩
          case measure =>
            clear n4
            simp [intOf]; omega
        · rw [decide_eq_false hfit] at hgood
          have hrf : r = false := by
            cases r with
            | false => rfl
            | true =>
              have := hr.out.1 rfl t htn
              rw [hgood] at this
              cases this
          have hg1 : decide (((chkS L ts (t + 1)).length : Int) > (k : Int)) = true := decide_eq_true (by omega)
          have hg2 : decide ((k : Int) < ((chkS L ts (t + 1)).length : Int)) = true := decide_eq_true (by omega)
          have hg3 : decide (k < (chkS L ts (t + 1)).length) = true := decide_eq_true (by omega)
          replace hgood := Box.mk hgood
          clear hok hnext hfit
          generalize hnx : nxC (chkS L ts t) (keyB L t) (tnB ts t) = C2 at *
          generalize (chkS L ts (t + 1)).length = cl at *
          replace hnx := Box.mk hnx
          generalize keyB L t = x at *
          generalize tnB ts t = y at *
          obtain ⟨hit, left, out⟩ := y
          dsimp only at *
          obtain ⟨s0, s1, s2, s3⟩ := hS0
          go_wp2
          rw [show Op.call { callee := Callee.builtin Builtin.len, args := #[Operand.tmp 40], argTypes := #[73] } = lnA from rfl]
          have hopC : lnA = Op.call { callee := Callee.builtin Builtin.len, args := #[Operand.tmp 40], argTypes := #[73] } := rfl
          go_region_held3 (fun w' => w'.cell? ⟨b1, o1 + t, none⟩ = some (.int .u32 (x : Nat)) ∧ w'.cell? ⟨wr.heap.size, 0, none⟩ = some (.bool hit) ∧ w'.cell? ⟨wr.heap.size, 1, none⟩ = some (.bool left) ∧ w'.cell? ⟨wr.heap.size, 2, none⟩ = some (.int .u32 (out : Nat)))
            (first
              | (with_reducible exact ⟨s0, s1, s2, s3⟩)
              | (with_reducible exact q5))
            (first
              | (go_at_call 41; (with_reducible refine (cT.out).mono ?_); rintro e w5 ⟨rfl, k5, b5⟩; obtain ⟨q5, x5⟩ := hfacts.out w5 k5; have hl5 := hlen.out w5 b5; replace k5 := Box.mk k5; replace b5 := Box.mk b5; replace x5 := Box.mk x5))
          all_goals go_wp2
          all_goals go_ret2
          all_goals (subst hrf; exact ⟨rfl, x5.out⟩)
    · obtain rfl : t = L.length := by omega
      have n2 : decide ((L.length : Int) < (L.length : Int)) = false := decide_eq_false (by omega)
      have n3 : decide (L.length < L.length) = false := decide_eq_false (by omega)
      have hrt : r = true := hr.out.2 hA.out
      have c3 := Box.mk (c2.out wr hR.out.1)
      obtain ⟨z, hz⟩ : ∃ z, z = polH ts L.length := ⟨_, rfl⟩
      rw [← hz] at c3
      replace hz := Box.mk hz
      go_wp2_with (first | (go_at_call 38; (with_reducible refine (c3.out).mono ?_); rintro e w5 ⟨rfl, hx5⟩))
      go_ret2
      subst hrt
      exact ⟨by rw [← hz.out]; rfl, Ext.trans' hR.out.1 hx5⟩
end Go.Proofs.Ytbhfpofcebepiaa
