import Derived.Test.YtnblbneehogadaaH9
/- Plain laws of a hub that gets a watcher. -/
namespace Go.Proofs.Ytnblbneehogadaa
open Go.RowKit Go.ChangeMaps
theorem nodup_sub_len {α : Type} [BEq α] [LawfulBEq α] : ∀ (l m : List α), l.Nodup → (∀ x ∈ l, x ∈ m) → l.length ≤ m.length
  | [], _, _, _ => Nat.zero_le _
  | a :: l, m, hn, h => by
    rw [List.nodup_cons] at hn
    have h1 := h a (by simp)
    have h2 := nodup_sub_len l (m.erase a) hn.2 (fun x hx => (List.mem_erase_of_ne (fun e : x = a => hn.1 (by rw [← e]; exact hx))).2 (h x (by simp [hx])))
    rw [List.length_erase_of_mem h1] at h2
    have h3 : 0 < m.length := List.length_pos_of_mem h1
    show l.length + 1 ≤ m.length
    omega
theorem valid_parts {pre : ByteArray} {ks : List Int} {room : Int} (h : validB pre ks room = true) : ks.length ≤ 5 ∧ (∀ k ∈ ks, 1 ≤ k ∧ k ≤ 5) ∧ pre.size ≤ 250 ∧ ∃ r : Nat, room = (r : Nat) ∧ 1 ≤ r ∧ r ≤ 1000 := by
  unfold validB at h
  simp only [Bool.and_eq_true, decide_eq_true_eq] at h
  obtain ⟨⟨h1, h2⟩, h3, h4, h5⟩ := h
  refine ⟨nodup_sub_len ks [1, 2, 3, 4, 5] h2 (fun x hx => ?_), h1, h3, room.toNat, by omega, by omega, by omega⟩
  have := h1 x hx
  have : x = 1 ∨ x = 2 ∨ x = 3 ∨ x = 4 ∨ x = 5 := by omega
  simpa using this
/-- A new watcher. -/
def newW (B : Nat) (pre : ByteArray) (kv : Value) (ks : List Int) (room : Nat) (old : Bool) : WtX := ⟨B, pre, kv, ks, room, old, .slice none 0 0, [], 0, 0, 0⟩
def newM (pre : ByteArray) (ks : List Int) (room : Nat) (old : Bool) : WMd := ⟨pre, ks, room, old, ⟨[], 0⟩⟩
theorem newW_md (B : Nat) (pre : ByteArray) (kv : Value) (ks : List Int) (room : Nat) (old : Bool) : (newW B pre kv ks room old).md = newM pre ks room old := rfl
theorem newW_ok {base : Nat} {w : World} {B : Nat} {pre : ByteArray} {kv : Value} {ks : List Int} {room : Nat} {old : Bool} (hd : w.heap[B]? = some (.cells #[.string pre, kv, .int .i64 (room : Nat), .bool old, .slice none 0 0, .int .i64 0, .int .i64 0, .int .i64 0] 76 (0, 0))) (hb : base ≤ B) (hk : KRow base w kv ks) (h1 : ks.length ≤ 5) (h2 : 1 ≤ room) (h3 : room ≤ 1000) : WOk base w (newW B pre kv ks room old) :=
  ⟨hd, hb, World.ownsRow_nil _ _ _ _, fun s hs => (by cases hs), hk, h1, h2, h3, Nat.zero_le _, Nat.le_refl _, Or.inr ⟨rfl, rfl⟩, by
    show (B :: ([] : List Nat)).Nodup
    simp⟩
theorem HubOk.add {base : Nat} {w w' : World} {H mb : Nat} {L : List (Int × WtX)} (h : HubOk base w H (some mb) L) (hM : Mut (fun q => q = mb) w w') {id : Int} {x : WtX} (hm : MAt w' mb (L.map ent ++ [ent (id, x)])) (hx : WOk base w' x) (hfp : x.fp = [x.B]) (hB : w.heap.size ≤ x.B) (hid : id ∉ L.map (·.1)) : HubOk base w' H (some mb) (L ++ [(id, x)]) := by
  obtain ⟨es, cl, hb⟩ : ∃ es cl, w.heap[mb]? = some (.map es cl) := by
    rcases h.mp with ⟨h0, _⟩ | ⟨mb', e', _, es, cl, h5, _⟩
    · cases h0
    · cases e'; exact ⟨es, cl, h5⟩
  have hne : ∀ (b : Nat) (cs : Array Value) (U : TypeId), w.heap[b]? = some (.cells cs U (0, 0)) → w'.heap[b]? = w.heap[b]? := fun b cs U hc => hM.other b (blk_lt hc) (fun e => by subst e; rw [hb] at hc; cases hc)
  have hlow : base ≤ mb := by
    rcases h.mp with ⟨h0, _⟩ | ⟨mb', e', h4, _⟩
    · cases h0
    · cases e'; exact h4
  refine ⟨(hne H _ _ h.hd).trans h.hd, h.low, Or.inr ⟨mb, rfl, hlow, by rw [List.map_append]; exact hm⟩, ?_, fun p hp => ?_, ?_⟩
  · rw [List.map_append]
    exact snoc_nodup h.ids hid
  · rcases List.mem_append.1 hp with hp | hp
    · have ho := h.oks p hp
      refine ho.frame (fun b hb => ?_) (fun g hg => ?_)
      · obtain ⟨_, _, cs, U, h1, _⟩ := ho.types hb
        exact hne b cs U h1
      · obtain ⟨_, _, cs, h1⟩ := ho.kblk hg
        exact hne g cs _ h1
    · simp only [List.mem_singleton] at hp
      subst hp
      exact hx
  · have : fpL (L ++ [(id, x)]) = fpL L ++ [x.B] := by
      unfold fpL
      rw [List.flatMap_append, List.flatMap_cons, List.flatMap_nil, List.append_nil, hfp]
    rw [this]
    refine snoc_nodup h.nd fun hm => ?_
    have := (h.types hm).2.1
    omega
end Go.Proofs.Ytnblbneehogadaa
