import Derived.Test.YtbhfpofcebepiaaB24
/- The contract of belady.turn. -/
namespace Go.Proofs.Ytbhfpofcebepiaa
open Go.RowKit Go.ChangeMaps
/-- Is the turn one of a policy. -/
def okB (C : List Nat) (key : Nat) (x : TnB) : Bool := !((x.hit != decide (key ∈ C)) || (x.hit && x.left) || (!x.left && decide (x.out ≠ 0)) || (x.left && !decide (x.out ∈ C)))
/-- What is there behind it. -/
def nxC (C : List Nat) (key : Nat) (x : TnB) : List Nat := if key ∈ delOf x.left x.out C then delOf x.left x.out C else delOf x.left x.out C ++ [key]
theorem ok_cases (hit left kc oz oc : Bool) : (hit = true ∧ kc = false) ∨ (hit = false ∧ kc = true) ∨ (hit = true ∧ kc = true ∧ left = true) ∨ (hit = true ∧ kc = true ∧ left = false ∧ oz = true) ∨ (hit = true ∧ kc = true ∧ left = false ∧ oz = false) ∨
    (hit = false ∧ kc = false ∧ left = true ∧ oc = false) ∨ (hit = false ∧ kc = false ∧ left = true ∧ oc = true) ∨ (hit = false ∧ kc = false ∧ left = false ∧ oz = true) ∨ (hit = false ∧ kc = false ∧ left = false ∧ oz = false) := by
  cases hit <;> cases left <;> cases kc <;> cases oz <;> cases oc <;> simp
set_option maxRecDepth 100000 in
set_option maxHeartbeats 8000000 in
theorem turn_any (B : Nat) (C : List Nat) (key : Nat) (x : TnB) (w : World) (hn : C.Nodup) (hB : BAt w B C) :
    Calls Try.prog 41 #[.map (some B), .int .u32 (key : Nat), .agg #[.bool x.hit, .bool x.left, .int .u32 (x.out : Nat)]] w fun e w' => e = .returned (.bool (okB C key x)) ∧ KeepB B w w' ∧ BAt w' B (if okB C key x then nxC C key x else C) := by
  obtain ⟨hit, left, out⟩ := x
  obtain ⟨nx, hnx⟩ : ∃ nx, nx = nxC C key ⟨hit, left, out⟩ := ⟨_, rfl⟩
  rw [← hnx]
  have hok : okB C key ⟨hit, left, out⟩ = !((hit != decide (key ∈ C)) || (hit && left) || (!left && decide (out ≠ 0)) || (left && !decide (out ∈ C))) := rfl
  rw [hok]
  dsimp only
  have hlt : B < w.heap.size := by obtain ⟨_, _, q, _⟩ := hB; exact blk_lt q
  have hx1 : Ext w (w.alloc (.cells #[.bool hit, .bool left, .int .u32 (out : Nat)] 50)) := Ext.alloc (Below.refl _ _) _
  have hB1 : BAt (w.alloc (.cells #[.bool hit, .bool left, .int .u32 (out : Nat)] 50)) B C := hB.of (hx1.block B hlt)
  have hl1 := bLook hB1 key
  have hl2 := bLook hB1 out
  have hXb := newblk w (.cells #[.bool hit, .bool left, .int .u32 (out : Nat)] 50)
  have cD := Box.mk (delf_any B w.heap.size C hit left out _ hn hB1 hXb)
  have hoz : ((out : Int) != 0) = decide (out ≠ 0) := by
    by_cases h : out = 0
    · subst h; rfl
    · rw [decide_eq_true h, bne_iff_ne]; omega
  have hoz2 : (out != 0) = decide (out ≠ 0) := by
    by_cases h : out = 0
    · subst h; rfl
    · rw [decide_eq_true h, bne_iff_ne]; exact h
  have hput : Box (∀ w2, BAt w2 B (delOf left out C) → KeepB B (w.alloc (.cells #[.bool hit, .bool left, .int .u32 (out : Nat)] 50)) w2 → ∃ o, (Instr.mapUpdate 73 (.map (some B)) (.int .u32 (key : Nat)) (.bool true)).run Try.prog w2 = .ok () (setBlock w2 B o) ∧ KeepB B w (setBlock w2 B o) ∧ BAt (setBlock w2 B o) B nx) := ⟨fun w2 h2 k2 => by
    obtain ⟨o, h3, h4⟩ := bPut h2 key
    refine ⟨o, h3, ((KeepB.of_ext hx1).trans k2).trans (KeepB.set _ _), ?_⟩
    rw [hnx]
    exact h4⟩
  have hbad : Box (KeepB B w (w.alloc (.cells #[.bool hit, .bool left, .int .u32 (out : Nat)] 50)) ∧ BAt (w.alloc (.cells #[.bool hit, .bool left, .int .u32 (out : Nat)] 50)) B C) := ⟨KeepB.of_ext hx1, hB1⟩
  clear hok hB hB1 hXb hnx hx1
  generalize decide (key ∈ C) = kc at *
  generalize decide (out ∈ C) = oc at *
  generalize decide (out ≠ 0) = oz at *
  rcases ok_cases hit left kc oz oc with ⟨rfl, rfl⟩ | ⟨rfl, rfl⟩ | ⟨rfl, rfl, rfl⟩ | ⟨rfl, rfl, rfl, rfl⟩ | ⟨rfl, rfl, rfl, rfl⟩ | ⟨rfl, rfl, rfl, rfl⟩ | ⟨rfl, rfl, rfl, rfl⟩ | ⟨rfl, rfl, rfl, rfl⟩ | ⟨rfl, rfl, rfl, rfl⟩
  · go_enter Try.func41, Try.ntmps41
    go_wp2
    go_ret
    exact ⟨rfl, hbad.out⟩
  · go_enter Try.func41, Try.ntmps41
    go_wp2
    go_ret
    exact ⟨rfl, hbad.out⟩
  · go_enter Try.func41, Try.ntmps41
    go_wp2
    go_ret
    exact ⟨rfl, hbad.out⟩
  · go_enter Try.func41, Try.ntmps41
    go_wp2
    go_ret
    exact ⟨rfl, hbad.out⟩
  · go_enter Try.func41, Try.ntmps41
    go_wp2_with (first | (go_at_call 48; (with_reducible refine (cD.out).mono ?_); rintro e w2 ⟨rfl, k2, h2⟩; obtain ⟨o, hp2, hk2, hb2⟩ := hput.out w2 h2 k2; replace hk2 := Box.mk hk2; replace hb2 := Box.mk hb2))
    go_ret
    exact ⟨rfl, hk2.out, hb2.out⟩
  · go_enter Try.func41, Try.ntmps41
    go_wp2
    go_ret
    exact ⟨rfl, hbad.out⟩
  · go_enter Try.func41, Try.ntmps41
    go_wp2_with (first | (go_at_call 48; (with_reducible refine (cD.out).mono ?_); rintro e w2 ⟨rfl, k2, h2⟩; obtain ⟨o, hp2, hk2, hb2⟩ := hput.out w2 h2 k2; replace hk2 := Box.mk hk2; replace hb2 := Box.mk hb2))
    go_ret
    exact ⟨rfl, hk2.out, hb2.out⟩
  · go_enter Try.func41, Try.ntmps41
    go_wp2
    go_ret
    exact ⟨rfl, hbad.out⟩
  · go_enter Try.func41, Try.ntmps41
    go_wp2_with (first | (go_at_call 48; (with_reducible refine (cD.out).mono ?_); rintro e w2 ⟨rfl, k2, h2⟩; obtain ⟨o, hp2, hk2, hb2⟩ := hput.out w2 h2 k2; replace hk2 := Box.mk hk2; replace hb2 := Box.mk hb2))
    go_ret
    exact ⟨rfl, hk2.out, hb2.out⟩
end Go.Proofs.Ytbhfpofcebepiaa
