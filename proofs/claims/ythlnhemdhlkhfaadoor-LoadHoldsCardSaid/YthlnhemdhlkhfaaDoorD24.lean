import Derived.Test.YthlnhemdhlkhfaaDoorD23
/- The words of a text, as the reference reads them. -/
namespace Go.Proofs.YthlnhemdhlkhfaaDoor
open Go.RowKit

def kP : ByteArray := ⟨#[32, 107, 101, 121, 115, 61]⟩
def rP : ByteArray := ⟨#[32, 114, 101, 113, 117, 101, 115, 116, 115, 61]⟩
def pP : ByteArray := ⟨#[32, 112, 97, 114, 116, 61]⟩
def sP : ByteArray := ⟨#[32, 115, 101, 101, 100, 61]⟩
theorem text_cut (k a r p x : Nat) : textB k a r p x = (wordB k ++ kP) ++ (digs a ++ (rP ++ (digs r ++ (pP ++ (digs p ++ (sP ++ digs x)))))) := by
  apply ByteArray.ext
  apply Array.ext'
  simp [textB, kP, rP, pP, sP, ByteArray.data_append]
theorem numV_stop (n : Nat) (h : n ≤ never) (c : UInt8) (t : ByteArray) (hc : ¬ (48 ≤ c.toNat ∧ c.toNat ≤ 57)) (ht : ∃ l, t.data.toList = c :: l) : numV (digs n ++ t) = .tuple #[.int .u64 n, .string t, .bool true] := by
  obtain ⟨l, hl⟩ := ht
  have e : (digs n ++ t).data.toList = dd n ++ c :: l := by
    rw [ByteArray.data_append, Array.toList_append, hl]; rfl
  have h2 : decide ((c :: l).length < (digs n ++ t).size) = true := by
    apply decide_eq_true
    have h3 : (digs n ++ t).size = (dd n ++ c :: l).length := by rw [← e]; rfl
    rw [h3, List.length_append]
    have := dd_pos n
    unfold dd
    omega
  unfold numV
  rw [e, numG_stop n h c l hc]
  simp only [h2]
  congr 3
  simp only [List.cons.injEq, Value.string.injEq, true_and, and_true]
  apply ByteArray.ext; apply Array.ext'; rw [← hl]
theorem numV_end (n : Nat) (h : n ≤ never) : numV (digs n) = .tuple #[.int .u64 n, .string ⟨#[]⟩, .bool true] := by
  have h2 : decide (([] : List UInt8).length < (digs n).size) = true := by
    apply decide_eq_true
    have := dd_pos n
    show 0 < (Lib.decDigits n).length
    omega
  unfold numV
  rw [show (digs n).data.toList = dd n from rfl, numG_dd n h]
  simp only [h2]
end Go.Proofs.YthlnhemdhlkhfaaDoor
