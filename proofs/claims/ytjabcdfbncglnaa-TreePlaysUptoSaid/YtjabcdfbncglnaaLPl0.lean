/- WHAT IS PROVED: TreePlays' two trees in their array, and what its steps do to them. -/
import Derived.Test.YtjabcdfbncglnaaLB15
import Derived.Test.YtjabcdfbncglnaaLCn
import Derived.Test.YtjabcdfbncglnaaLB16
namespace Go.Proofs.Ytjabcdfbncglnaa
open Go.RowKit Go.Proofs.YtjabcdfbncglnaaW.PrintWords Go.Proofs.YtjabcdfbncglnaaW.PrintLast Go.Proofs.YtjabcdfbncglnaaW.PrintMore
open PTreeRanks (S59 k59 z59)
set_option linter.unusedVariables false
set_option linter.unusedSimpArgs false

/-- The two trees in their array, with their elements; they may share nodes. -/
def PlaysAt (order n b0 b1 s : Nat) (l0 l1 : List S59) (W : World) : Prop :=
  (n ≤ b0 ∧ n ≤ b1 ∧ n ≤ s ∧ b0 ≠ b1 ∧ b0 ≠ s ∧ b1 ≠ s) ∧ ∃ lv0 lv1, W.heap[s]? = some (.cells #[.pointer (some ⟨b0, 0, none⟩), lv0, .pointer (some ⟨b1, 0, none⟩), lv1] 49 (0, 0)) ∧
    TG order l0 (OkF n b0 b1 s) b0 W ∧ TG order l1 (OkF n b0 b1 s) b1 W ∧ k59.R 59 W 0 (OkF n b0 b1 s) lv0 l0 ∧ k59.R 59 W 0 (OkF n b0 b1 s) lv1 l1

variable {order n b0 b1 s : Nat} {l0 l1 : List S59} {W W' : World}
theorem PlaysAt.below (h : PlaysAt order n b0 b1 s l0 l1 W) (hb : Below W.heap.size W W') : PlaysAt order n b0 b1 s l0 l1 W' := by
  obtain ⟨f, lv0, lv1, hh, hT0, hT1, hR0, hR1⟩ := h
  exact ⟨f, lv0, lv1, (hb.block _ (blk_lt hh)).trans hh, hT0.below hb, hT1.below hb, Kd.R_below hR0 hb, Kd.R_below hR1 hb⟩

theorem PlaysAt.change0 (h : PlaysAt order n b0 b1 s l0 l1 W) (kd x i : Int) (kk k2 : ByteArray) (other beyond : Bool) (hk : kk.size ≤ 281474976710656) (hl : l0.length < 1073741824) :
    Calls Try.prog 21 #[.pointer (some ⟨s, 0, none⟩), .agg #[.int .i64 kd, .bool other, .string kk, .string k2, .int .i64 x, .int .i64 i, .bool beyond]] W fun e w' => e = .returned (.bool true) ∧ PlaysAt order n b0 b1 s (chL l0 kd kk x) l1 w' ∧ Below n W w' := by
  obtain ⟨⟨f0, f1, f2, f3, f4, f5⟩, lv0, lv1, hh, hT0, hT1, hR0, hR1⟩ := h
  have hs := blk_lt hh
  have h0 := hT0.lt
  have h1 := hT1.lt
  refine (changes_calls (o := 0) (ok := OkF n b0 b1 s) (okr := OkF n b0 b1 s) hT0 (fun k hk => ⟨by omega, by omega, by omega, by omega⟩) (fun hk => hk.2.1 rfl) (fun hk => hk.2.2.2 rfl) (fun e => f4 e.symm) hh rfl rfl hR0 (fun k hk => ⟨by omega, by omega, by omega, by omega⟩) (fun hk => hk.2.2.2 rfl) (fun hk => hk.2.1 rfl) kd x i kk k2 other beyond hk hl).mono ?_
  rintro e w' ⟨rfl, lv', g1, g2, g3, g4⟩
  refine ⟨rfl, ⟨⟨f0, f1, f2, f3, f4, f5⟩, lv', lv1, g1, g2, hT1.step (fun k hk hlt => g4.block k hlt ?_ ?_), g3, Kd.R_step hR1 (fun k hk hlt => g4.block k hlt hk.2.2.2 hk.2.1)⟩, g4.belowN (by omega) f2 f0⟩
  · rcases hk with hk | rfl
    · exact hk.2.2.2
    · exact f5
  · rcases hk with hk | rfl
    · exact hk.2.1
    · exact fun e => f3 e.symm
theorem PlaysAt.change1 (h : PlaysAt order n b0 b1 s l0 l1 W) (kd x i : Int) (kk k2 : ByteArray) (other beyond : Bool) (hk : kk.size ≤ 281474976710656) (hl : l1.length < 1073741824) :
    Calls Try.prog 21 #[.pointer (some ⟨s, 2, none⟩), .agg #[.int .i64 kd, .bool other, .string kk, .string k2, .int .i64 x, .int .i64 i, .bool beyond]] W fun e w' => e = .returned (.bool true) ∧ PlaysAt order n b0 b1 s l0 (chL l1 kd kk x) w' ∧ Below n W w' := by
  obtain ⟨⟨f0, f1, f2, f3, f4, f5⟩, lv0, lv1, hh, hT0, hT1, hR0, hR1⟩ := h
  have hs := blk_lt hh
  have h0 := hT0.lt
  have h1 := hT1.lt
  refine (changes_calls (o := 2) (ok := OkF n b0 b1 s) (okr := OkF n b0 b1 s) hT1 (fun k hk => ⟨by omega, by omega, by omega, by omega⟩) (fun hk => hk.2.2.1 rfl) (fun hk => hk.2.2.2 rfl) (fun e => f5 e.symm) hh rfl rfl hR1 (fun k hk => ⟨by omega, by omega, by omega, by omega⟩) (fun hk => hk.2.2.2 rfl) (fun hk => hk.2.2.1 rfl) kd x i kk k2 other beyond hk hl).mono ?_
  rintro e w' ⟨rfl, lv', g1, g2, g3, g4⟩
  refine ⟨rfl, ⟨⟨f0, f1, f2, f3, f4, f5⟩, lv0, lv', g1, hT0.step (fun k hk hlt => g4.block k hlt ?_ ?_), g2, Kd.R_step hR0 (fun k hk hlt => g4.block k hlt hk.2.2.2 hk.2.2.1), g3⟩, g4.belowN (by omega) f2 f1⟩
  · rcases hk with hk | rfl
    · exact hk.2.2.2
    · exact f4
  · rcases hk with hk | rfl
    · exact hk.2.2.1
    · exact f3

theorem cells_at {W : World} {s : Nat} {c : Array Value} {e : TypeId} (hh : W.heap[s]? = some (.cells c e (0, 0))) {i : Nat} {v lv : Value} (hi : c[i]? = some v) (h : W.cell? ⟨s, i, none⟩ = some lv) : v = lv := by
  have := (blk_cell hh i).trans hi
  rw [h] at this
  injection this with this
  exact this.symm

/-- Behind Clone of the first tree into the second. -/
theorem PlaysAt.clone0 (h : PlaysAt order n b0 b1 s l0 l1 W) {lv : Value} (hlv : W.cell? ⟨s, 1, none⟩ = some lv) {q : Nat} (hq : W.heap.size ≤ q) {w5 : World} (hb : Below W.heap.size W w5) (hT : TG order l0 (fun k => OkF n b0 b1 s k ∧ k < W.heap.size) q w5) :
    PlaysAt order n b0 q s l0 l0 ((w5.setCell ⟨s, 2, none⟩ (.pointer (some ⟨q, 0, none⟩))).setCell ⟨s, 3, none⟩ lv) ∧ Below n W ((w5.setCell ⟨s, 2, none⟩ (.pointer (some ⟨q, 0, none⟩))).setCell ⟨s, 3, none⟩ lv) := by
  obtain ⟨⟨f0, f1, f2, f3, f4, f5⟩, lv0, lv1, hh, hT0, hT1, hR0, hR1⟩ := h
  have hs := blk_lt hh
  have h0 := hT0.lt
  obtain rfl := cells_at hh rfl hlv
  have hg : w5.grownBy ((w5.setCell ⟨s, 2, none⟩ (.pointer (some ⟨q, 0, none⟩))).setCell ⟨s, 3, none⟩ lv0) (some s) := gb_set (gb_set (grownBy_refl _ _) _ _) _ _
  have h5 := (hb.block _ hs).trans hh
  have h6 := blk_set (blk_set h5 2 (.pointer (some ⟨q, 0, none⟩))) 3 lv0
  have hok : ∀ k, OkF n b0 b1 s k → k < W.heap.size → OkF n b0 q s k := fun k hk hlt => ⟨hk.1, hk.2.1, by omega, hk.2.2.2⟩
  have hR : k59.R 59 ((w5.setCell ⟨s, 2, none⟩ (.pointer (some ⟨q, 0, none⟩))).setCell ⟨s, 3, none⟩ lv0) 0 (OkF n b0 q s) lv0 l0 :=
    Kd.R_grown (Kd.R_below (Kd.R_mono (Kd.R_bound hR0) (fun k hk => hok k hk.1 hk.2.2.1)) hb) hg (fun k hk e => by injection e with e; exact hk.2.2.2 e)
  refine ⟨⟨⟨f0, by omega, f2, by omega, f4, by omega⟩, lv0, lv0, h6, ((hT0.imp hok).below hb).step (fun k hk hlt => hg.block k hlt (fun e => ?_)), (hT.imp (fun k hk _ => hok k hk.1 hk.2)).step (fun k hk hlt => hg.block k hlt (fun e => ?_)), hR, hR⟩,
    (hb.mono (by omega)).trans (grownBy_below hg (by have := hb.size; omega) (fun k e => by injection e with e; omega))⟩
  · injection e with e
    rcases hk with hk | rfl
    · exact hk.2.2.2 e
    · exact f4 e
  · injection e with e
    rcases hk with hk | rfl
    · exact hk.2.2.2 e
    · omega
/-- Behind Clone of the second tree into the first. -/
theorem PlaysAt.clone1 (h : PlaysAt order n b0 b1 s l0 l1 W) {lv : Value} (hlv : W.cell? ⟨s, 3, none⟩ = some lv) {q : Nat} (hq : W.heap.size ≤ q) {w5 : World} (hb : Below W.heap.size W w5) (hT : TG order l1 (fun k => OkF n b0 b1 s k ∧ k < W.heap.size) q w5) :
    PlaysAt order n q b1 s l1 l1 ((w5.setCell ⟨s, 0, none⟩ (.pointer (some ⟨q, 0, none⟩))).setCell ⟨s, 1, none⟩ lv) ∧ Below n W ((w5.setCell ⟨s, 0, none⟩ (.pointer (some ⟨q, 0, none⟩))).setCell ⟨s, 1, none⟩ lv) := by
  obtain ⟨⟨f0, f1, f2, f3, f4, f5⟩, lv0, lv1, hh, hT0, hT1, hR0, hR1⟩ := h
  have hs := blk_lt hh
  have h0 := hT1.lt
  obtain rfl := cells_at hh rfl hlv
  have hg : w5.grownBy ((w5.setCell ⟨s, 0, none⟩ (.pointer (some ⟨q, 0, none⟩))).setCell ⟨s, 1, none⟩ lv1) (some s) := gb_set (gb_set (grownBy_refl _ _) _ _) _ _
  have h5 := (hb.block _ hs).trans hh
  have h6 := blk_set (blk_set h5 0 (.pointer (some ⟨q, 0, none⟩))) 1 lv1
  have hok : ∀ k, OkF n b0 b1 s k → k < W.heap.size → OkF n q b1 s k := fun k hk hlt => ⟨hk.1, by omega, hk.2.2.1, hk.2.2.2⟩
  have hR : k59.R 59 ((w5.setCell ⟨s, 0, none⟩ (.pointer (some ⟨q, 0, none⟩))).setCell ⟨s, 1, none⟩ lv1) 0 (OkF n q b1 s) lv1 l1 :=
    Kd.R_grown (Kd.R_below (Kd.R_mono (Kd.R_bound hR1) (fun k hk => hok k hk.1 hk.2.2.1)) hb) hg (fun k hk e => by injection e with e; exact hk.2.2.2 e)
  refine ⟨⟨⟨by omega, f1, f2, by omega, by omega, f5⟩, lv1, lv1, h6, (hT.imp (fun k hk _ => hok k hk.1 hk.2)).step (fun k hk hlt => hg.block k hlt (fun e => ?_)), ((hT1.imp hok).below hb).step (fun k hk hlt => hg.block k hlt (fun e => ?_)), hR, hR⟩,
    (hb.mono (by omega)).trans (grownBy_below hg (by have := hb.size; omega) (fun k e => by injection e with e; omega))⟩
  · injection e with e
    rcases hk with hk | rfl
    · exact hk.2.2.2 e
    · omega
  · injection e with e
    rcases hk with hk | rfl
    · exact hk.2.2.2 e
    · exact f5 e
end Go.Proofs.Ytjabcdfbncglnaa
