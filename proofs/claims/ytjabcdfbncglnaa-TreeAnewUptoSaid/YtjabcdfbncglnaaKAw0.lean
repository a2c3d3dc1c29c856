/- WHAT IS PROVED: TreeAnew's two trees stay as they are under what its walk does. -/
import Derived.Test.YtjabcdfbncglnaaKB16
import Derived.Test.YtjabcdfbncglnaaKB15
import Derived.Test.YtjabcdfbncglnaaKB12
import Derived.StillTailTactics
import Derived.Deep.RegionHeld3
namespace Go.Proofs.Ytjabcdfbncglnaa
open Go.RowKit Go.Proofs.YtjabcdfbncglnaaW.PrintWords Go.Proofs.YtjabcdfbncglnaaW.PrintLast Go.Proofs.YtjabcdfbncglnaaW.PrintMore
open PTreeRanks (S59 k59 z59)
set_option linter.unusedVariables false
set_option linter.unusedSimpArgs false

/-- The blocks of the second tree's nodes. -/
def OkB (n bb s : Nat) : Nat → Prop := fun k => n ≤ k ∧ k ≠ bb ∧ k ≠ s ∧ k ≠ s + 1

/-- The two trees and their lists, in their structs at s and s + 1. -/
def AnewAt (order na nb ba bb s : Nat) (la lb : List S59) (lav lbv : Value) (W : World) : Prop :=
  ba < nb ∧ nb ≤ bb ∧ bb < s ∧ na ≤ ba ∧ na ≤ nb ∧
  W.heap[s]? = some (.cells #[.pointer (some ⟨ba, 0, none⟩), lav] 27 (0, 0)) ∧ W.heap[s + 1]? = some (.cells #[.pointer (some ⟨bb, 0, none⟩), lbv] 27 (0, 0)) ∧
  TG order la (fun k => na ≤ k ∧ k ≠ ba ∧ k < nb) ba W ∧ TG order lb (OkB nb bb s) bb W ∧ k59.R 59 W 0 (fun k => k < nb) lav la

variable {order na nb ba bb s : Nat} {la lb lb' : List S59} {lav lbv : Value} {W W' : World}
theorem AnewAt.below (h : AnewAt order na nb ba bb s la lb lav lbv W) (hb : Below W.heap.size W W') : AnewAt order na nb ba bb s la lb lav lbv W' := by
  obtain ⟨f1, f2, f3, f4, f5, g1, g2, g3, g4, g5⟩ := h
  exact ⟨f1, f2, f3, f4, f5, (hb.block _ (blk_lt g1)).trans g1, (hb.block _ (blk_lt g2)).trans g2, g3.below hb, g4.below hb, Kd.R_below g5 hb⟩
theorem AnewAt.wrote (h : AnewAt order na nb ba bb s la lb lav lbv W) (hg : W.grownBy W' (some bb)) (hT : TG order lb' (OkB nb bb s) bb W') : AnewAt order na nb ba bb s la lb' lav lbv W' := by
  obtain ⟨f1, f2, f3, f4, f5, g1, g2, g3, g4, g5⟩ := h
  refine ⟨f1, f2, f3, f4, f5, (hg.block _ (blk_lt g1) (fun e => ?_)).trans g1, (hg.block _ (blk_lt g2) (fun e => ?_)).trans g2, g3.step (fun k hk hlt => hg.block k hlt (fun e => ?_)), hT, Kd.R_grown g5 hg (fun k hk e => ?_)⟩ <;> injection e with e <;> omega
theorem AnewAt.same (h : AnewAt order na nb ba bb s la lb lav lbv W) : AnewAt order na nb ba bb s la lb lav lav (W.setCell ⟨s + 1, 1, none⟩ lav) := by
  obtain ⟨f1, f2, f3, f4, f5, g1, g2, g3, g4, g5⟩ := h
  have hg : W.grownBy (W.setCell ⟨s + 1, 1, none⟩ lav) (some (s + 1)) := gb_set (grownBy_refl _ _) _ _
  refine ⟨f1, f2, f3, f4, f5, (hg.block _ (blk_lt g1) (fun e => ?_)).trans g1, (blk_set g2 1 _).trans rfl, g3.step (fun k hk hlt => hg.block k hlt (fun e => ?_)), g4.step (fun k hk hlt => hg.block k hlt (fun e => ?_)), Kd.R_grown g5 hg (fun k hk e => ?_)⟩
  · injection e with e; omega
  · injection e with e; omega
  · injection e with e
    rcases hk with hk | hk
    · exact hk.2.2.2 e
    · omega
  · injection e with e; omega
theorem AnewAt.ok (h : AnewAt order na nb ba bb s la lb lav lbv W) : ∀ k, W.heap.size ≤ k → OkB nb bb s k := by
  obtain ⟨f1, f2, f3, f4, f5, g1, g2, g3, g4, g5⟩ := h
  have := blk_lt g2
  exact fun k hk => ⟨by omega, by omega, by omega, by omega⟩
theorem AnewAt.put (h : AnewAt order na nb ba bb s la lb lav lbv W) (k : ByteArray) (hk : k.size ≤ 281474976710656) (hl : lb.length < 1099511627776) (x : Int) : Calls Try.prog 25 #[.pointer (some ⟨bb, 0, none⟩), .string k, .int .i64 x] W fun e W' =>
    (∃ v, e = .returned v) ∧ W.grownBy W' (some bb) ∧ AnewAt order na nb ba bb s la (insL lb k x) lav lbv W' := by
  refine (TG_put h.2.2.2.2.2.2.2.2.1 k hk hl h.ok (fun e => e.2.1 rfl) x).mono ?_
  rintro e W' ⟨rfl, hg, hT⟩
  exact ⟨⟨_, rfl⟩, hg, h.wrote hg hT⟩
theorem AnewAt.delete (h : AnewAt order na nb ba bb s la lb lav lbv W) (k : ByteArray) (hl : lb.length < 1099511627776) : Calls Try.prog 27 #[.pointer (some ⟨bb, 0, none⟩), .string k] W fun e W' =>
    (∃ v, e = .returned v) ∧ W.grownBy W' (some bb) ∧ AnewAt order na nb ba bb s la (delL lb k) lav lbv W' := by
  refine (TG_delete h.2.2.2.2.2.2.2.2.1 k hl h.ok (fun e => e.2.1 rfl)).mono ?_
  rintro e W' ⟨rfl, hg, hT⟩
  exact ⟨⟨_, rfl⟩, hg, h.wrote hg hT⟩
theorem AnewAt.tla (h : AnewAt order na nb ba bb s la lb lav lbv W) : TL order la 0 ba W := h.2.2.2.2.2.2.2.1.tl (fun e => e.2.1 rfl)
theorem AnewAt.tlb (h : AnewAt order na nb ba bb s la lb lav lbv W) : TL order lb 0 bb W := h.2.2.2.2.2.2.2.2.1.tl (fun e => e.2.1 rfl)
theorem backL_length (a : List S59) : ∀ (ks : List ByteArray) (b : List S59), (backL a ks b).length ≤ ks.length + b.length
  | [], b => by simp [backL]
  | k :: ks, b => by
    show (insL (backL a ks b) k (getV a k)).length ≤ _
    have := backL_length a ks b
    rw [insL_length, List.length_cons]
    split <;> omega
theorem goneL_length (a : List S59) : ∀ (gs : List ByteArray) (b : List S59), (goneL a gs b).length ≤ b.length
  | [], b => Nat.le_refl _
  | k :: gs, b => by
    show (goneL a gs (if has (keysOf a) k then b else delL b k)).length ≤ _
    refine Nat.le_trans (goneL_length a gs _) ?_
    split
    · exact Nat.le_refl _
    · rw [delL_length]; omega
theorem goneL_snoc (a : List S59) (gs : List ByteArray) (k : ByteArray) (b : List S59) : goneL a (gs ++ [k]) b = if has (keysOf a) k then goneL a gs b else delL (goneL a gs b) k := by
  simp [goneL, List.foldl_append]
end Go.Proofs.Ytjabcdfbncglnaa
