/- WHAT IS PROVED: the order of strings is a strict total order. -/
import Derived.Test.YtknpkfjaffhejaaGreatUt
namespace Go.Proofs.YtknpkfjaffhejaaGreat
open Go.RowKit
set_option linter.unusedVariables false
set_option linter.unusedSimpArgs false

def blt (a b : ByteArray) : Bool := Op.bytesLess a.toList b.toList

theorem bl_irrefl : ∀ a : List UInt8, Op.bytesLess a a = false
  | [] => rfl
  | a :: x => by simp [Op.bytesLess, bl_irrefl x]

theorem bl_trans : ∀ a b c : List UInt8, Op.bytesLess a b = true → Op.bytesLess b c = true → Op.bytesLess a c = true
  | _, b, [], _, h => by cases b <;> simp [Op.bytesLess] at h
  | [], b, c :: z, _, _ => by simp [Op.bytesLess]
  | a :: x, [], c :: z, h, _ => by simp [Op.bytesLess] at h
  | a :: x, b :: y, c :: z, h, k => by
    simp only [Op.bytesLess, Bool.or_eq_true, Bool.and_eq_true, decide_eq_true_eq, beq_iff_eq] at h k ⊢
    rcases h with h | ⟨rfl, h⟩
    · rcases k with k | ⟨rfl, k⟩
      · exact .inl (UInt8.lt_trans h k)
      · exact .inl h
    · rcases k with k | ⟨rfl, k⟩
      · exact .inl k
      · exact .inr ⟨rfl, bl_trans x y z h k⟩

theorem bl_tri : ∀ a b : List UInt8, Op.bytesLess a b = false → Op.bytesLess b a = false → a = b
  | [], [], _, _ => rfl
  | [], _ :: _, h, _ => by simp [Op.bytesLess] at h
  | _ :: _, [], _, h => by simp [Op.bytesLess] at h
  | a :: x, b :: y, h, k => by
    simp only [Op.bytesLess, Bool.or_eq_false_iff, Bool.and_eq_false_iff, decide_eq_false_iff_not, beq_eq_false_iff_ne] at h k
    have e : a = b := by
      apply UInt8.toNat_inj.1
      have h1 := h.1
      have k1 := k.1
      rw [UInt8.lt_iff_toNat_lt] at h1 k1
      omega
    subst e
    rw [bl_tri x y (by simpa using h.2) (by simpa using k.2)]

theorem toList_inj {a b : ByteArray} (h : a.toList = b.toList) : a = b := by
  rw [ByteArray.toList_eq, ByteArray.toList_eq] at h
  exact ByteArray.ext (Array.toList_inj.1 h)

theorem blt_irrefl (a : ByteArray) : blt a a = false := bl_irrefl _
theorem blt_trans {a b c : ByteArray} (h : blt a b = true) (k : blt b c = true) : blt a c = true := bl_trans _ _ _ h k
theorem blt_tri {a b : ByteArray} (h : blt a b = false) (k : blt b a = false) : a = b := toList_inj (bl_tri _ _ h k)
theorem blt_asymm {a b : ByteArray} (h : blt a b = true) : blt b a = false := by
  cases e : blt b a with
  | false => rfl
  | true => have := blt_trans h e; rw [blt_irrefl] at this; cases this
/-- a < b, not c < b: a < c. -/
theorem blt_le {a b c : ByteArray} (h : blt a b = true) (k : blt c b = false) : blt a c = true := by
  cases e : blt a c with
  | true => rfl
  | false =>
    cases e2 : blt c a with
    | true => rw [blt_trans e2 h] at k; cases k
    | false => obtain rfl := blt_tri e e2; rw [h] at k; cases k
/-- not b < a, b < c: a < c. -/
theorem le_blt {a b c : ByteArray} (h : blt b a = false) (k : blt b c = true) : blt a c = true := by
  cases e : blt a c with
  | true => rfl
  | false =>
    cases e2 : blt c a with
    | true => rw [blt_trans k e2] at h; cases h
    | false => obtain rfl := blt_tri e e2; rw [h] at k; cases k

end Go.Proofs.YtknpkfjaffhejaaGreat
