/- WHAT IS PROVED: filled makes a tree and a list of the same elements. strings.Clone answers the same bytes, and cloned makes a row of its own with the same strings. cloned makes a row of its own with the same strings. what Nodes computes, as a function of the tree, and facts on rows of one's own side by side. Nodes of a tree makes a row of its own with the nodes that the walk through the queue tells. how the nodes lie that Nodes tells: each node at its place, its kids one behind the other. the document's filled and holds answer true for a node of the right form. what stands while the document's node goes through a tree's nodes, and the bounds of kids. -/
import Derived.Test.YtjabcdfbncglnaaLB12
import Derived.Lib.Strings
import Derived.Lib.Walk
import Derived.Lib.BufferWrite
import Derived.Lib.UnsafeStr
import Derived.Lib.Hide
import Derived.Laws.MakeOwn
import Derived.Test.YtjabcdfbncglnaaLB11
namespace Go.Proofs.Ytjabcdfbncglnaa
open Go.RowKit Go.Proofs.YtjabcdfbncglnaaW.PrintWords Go.Proofs.YtjabcdfbncglnaaW.PrintLast Go.Proofs.YtjabcdfbncglnaaW.PrintMore
open PTreeRanks (S59 k59 z59)
set_option linter.unusedVariables false
set_option linter.unusedSimpArgs false

/-- The elements after keys were put, numbered from i on. -/
def fillL : List ByteArray → Nat → List S59 → List S59
  | [], _, l => l
  | k :: ks, i, l => fillL ks (i + 1) (insL l k i)

/-- A tree and its list in the struct at block s. -/
def OneAt (order : Nat) (l : List S59) (s bt : Nat) (lv : Value) (W : World) : Prop :=
  W.heap[s]? = some (.cells #[.pointer (some ⟨bt, 0, none⟩), lv] 27 (0, 0)) ∧ TL order l (s + 1) bt W ∧ k59.R 59 W 0 (fun k => k ≠ s ∧ k ≠ bt ∧ k + 1 ≠ s) lv l

def FillInv (order : Nat) (ks : List ByteArray) (w : World) (i : Nat) (W : World) : Prop :=
  ∃ l lv, fillL (ks.drop i) i l = fillL ks 0 [] ∧ l.length ≤ i ∧ OneAt order l (w.heap.size + 1) (w.heap.size + 3) lv W ∧ W.heap[w.heap.size]? = some (.cells #[.pointer none, .slice none 0 0] 27 (0, 0)) ∧ Below w.heap.size w W

/-- What filled answers. -/
def FillPost (order : Nat) (ks : List ByteArray) (w : World) (e : Ending) (W : World) : Prop :=
  ∃ lv, e = .returned (.agg #[.pointer (some ⟨w.heap.size + 3, 0, none⟩), lv]) ∧ TL order (fillL ks 0 []) (w.heap.size + 2) (w.heap.size + 3) W ∧ k59.R 59 W 0 (fun k => k ≠ w.heap.size + 1 ∧ k ≠ w.heap.size + 3 ∧ k + 1 ≠ w.heap.size + 1) lv (fillL ks 0 []) ∧ Below w.heap.size w W

set_option maxRecDepth 100000 in
set_option maxHeartbeats 4000000 in
theorem filled_calls (order : Nat) (h3 : 3 ≤ order) (h4 : order ≤ 64) (A : Option Addr) (c : Nat) (ks : List ByteArray) (w : World) (hC : Kd.C Kd.string w A ks.length ks) (hc : ks.length ≤ c) (hn : ks.length ≤ 2097152) (hz : ∀ k ∈ ks, k.size ≤ 281474976710656) :
    Calls Try.prog 11 #[.int .i64 (order : Nat), .slice A ks.length c] w (FillPost order ks w) := by
  have HC := Aside0.mk hC
  have HZ := Aside0.mk hz
  clear hz
  have HN := Aside0.mk (new_calls order h3 h4 ((w.alloc (.cells #[.pointer none, .slice none 0 0] 27)).alloc (.cells #[.pointer none, .slice none 0 0] 27)))
  clear hC
  have hu27 := Try.underlying27
  go_enter Try.func11, Try.ntmps11
  go_wp2_with fail
  refine HN.out.mono ?_
  rintro e w1 ⟨rfl, hb1, hT1⟩
  have es : ((w.alloc (.cells #[.pointer none, .slice none 0 0] 27)).alloc (.cells #[.pointer none, .slice none 0 0] 27)).heap.size = w.heap.size + 2 := by simp
  have hh1 : ((w.alloc (.cells #[.pointer none, .slice none 0 0] 27)).alloc (.cells #[.pointer none, .slice none 0 0] 27)).heap[w.heap.size + 1]? = some (.cells #[.pointer none, .slice none 0 0] 27 (0, 0)) := by
    have e : w.heap.size + 1 = (w.alloc (.cells #[.pointer none, .slice none 0 0] 27)).heap.size := by simp
    rw [e]
    exact heap_alloc_new _ _
  have hh0 : ((w.alloc (.cells #[.pointer none, .slice none 0 0] 27)).alloc (.cells #[.pointer none, .slice none 0 0] 27)).heap[w.heap.size]? = some (.cells #[.pointer none, .slice none 0 0] 27 (0, 0)) :=
    (Below.heap_alloc _ _ _ (by simp)).trans (heap_alloc_new w _)
  have hB0 : Below w.heap.size w ((w.alloc (.cells #[.pointer none, .slice none 0 0] 27)).alloc (.cells #[.pointer none, .slice none 0 0] 27)) := below_mk (below_mk (Below.refl _ _) _) _
  generalize (w.alloc (.cells #[.pointer none, .slice none 0 0] 27)).alloc (.cells #[.pointer none, .slice none 0 0] 27) = W0 at *
  rw [es] at hb1 hT1
  have hh1 := (hb1.block _ (by omega)).trans hh1
  have hh0 := (hb1.block _ (by omega)).trans hh0
  have hB1 := below_go (by rw [es]; exact hb1) hB0
  have y0 : w1.cell? ⟨w.heap.size + 1, 0, none⟩ = some (.pointer none) := (blk_cell hh1 0).trans rfl
  have y1 : w1.cell? ⟨w.heap.size + 1, 1, none⟩ = some (.slice none 0 0) := (blk_cell hh1 1).trans rfl
  have yf0 : w1.frozen? ⟨w.heap.size + 1, 0, none⟩ = false := blk_frozen hh1 0
  have yf1 : w1.frozen? ⟨w.heap.size + 1, 1, none⟩ = false := blk_frozen hh1 1
  have HI : Aside0 (FillInv order ks w 0 (w1.setCell ⟨w.heap.size + 1, 0, none⟩ (.pointer (some ⟨w.heap.size + 3, 0, none⟩)))) := by
    have hg : w1.grownBy (w1.setCell ⟨w.heap.size + 1, 0, none⟩ (.pointer (some ⟨w.heap.size + 3, 0, none⟩))) (some (w.heap.size + 1)) := gb_set (grownBy_refl _ _) _ _
    refine ⟨[], .slice none 0 0, rfl, Nat.le_refl _, ⟨(blk_set hh1 0 _).trans rfl, hT1.far hg (by omega), Kd.R_nil _ _ _ _ _⟩, (hg.block _ (by have := blk_lt hh0; omega) (by intro e; injection e with e; omega)).trans hh0, ?_⟩
    exact hB1.trans (grownBy_below hg hB1.size (fun k e => by injection e with e; omega))
  clear HN hT1 hb1 hh1 hh0 hB0 hB1
  go_wp2
  go_loopw [17] (fun v W => ∃ i : Nat, v = .int .i64 i ∧ i ≤ ks.length ∧ Aside0 (FillInv order ks w i W)) (fun v W => ks.length - (RowKit.intOf v).toNat)
  case atStart => exact ⟨0, rfl, Nat.zero_le _, HI⟩
  case round =>
    clear HI y0 y1 yf0 yf1 es
    obtain ⟨i, rfl, hi, ⟨l, lv, hf, hl, ⟨hh, hT, hR⟩, hh0, hB⟩⟩ := hrel
    have y0 : wr.cell? ⟨w.heap.size + 1, 0, none⟩ = some (.pointer (some ⟨w.heap.size + 3, 0, none⟩)) := (blk_cell hh 0).trans rfl
    have y1 : wr.cell? ⟨w.heap.size + 1, 1, none⟩ = some lv := (blk_cell hh 1).trans rfl
    by_cases hlt : i < ks.length
    · have b1 : decide (((i : Nat) : Int) < ((ks.length : Nat) : Int)) = true := decide_eq_true (by omega)
      have p0 : (0 : Int) ≤ ((i : Nat) : Int) := by omega
      have p1 : ((i : Nat) : Int) < ((ks.length : Nat) : Int) := by omega
      obtain ⟨ad, rfl, hcell⟩ := Kd.at_string (Kd.C_below HC.out hB) i p0 p1
      have hcell : wr.cell? (ad.add i) = some (.string ks[i]) := by
        rw [rdOf_eq _ _ hlt] at hcell
        exact hcell
      replace p0 := eq_true p0
      replace p1 := eq_true p1
      have HP := Aside0.mk (TL_put hT ks[i] (HZ.out _ (List.getElem_mem hlt)) (by omega) (by have := blk_lt hh; omega) i)
      have HT := Aside0.mk hT
      have HR := Aside0.mk hR
      have HB := Aside0.mk hB
      have HH := Aside0.mk hh
      have HH0 := Aside0.mk hh0
      have HF := Aside0.mk hf
      have hdrop : ks.drop i = ks[i] :: ks.drop (i + 1) := List.drop_eq_getElem_cons hlt
      generalize ks[i] = k at *
      clear hT hR hB hh hh0 hf
      go_wp2_with fail
      refine HP.out.mono ?_
      rintro e w2 ⟨rfl, hg2, hT2⟩
      have hh2 := (hg2.block _ (blk_lt HH.out) (by intro e; injection e with e; omega)).trans HH.out
      have hh20 := (hg2.block _ (blk_lt HH0.out) (by intro e; injection e with e; omega)).trans HH0.out
      have hR2 := Kd.R_grown HR.out hg2 (fun k hk e => by injection e with e; exact hk.2.1 e)
      obtain ⟨A2, c2, rfl, hc2, hC2⟩ := Kd.R_reads hR2
      have y2 : w2.cell? ⟨w.heap.size + 1, 1, none⟩ = some (.slice A2 l.length c2) := (blk_cell hh2 1).trans rfl
      have HPR := Aside0.mk (PTreeRanks.keystoneref05_Put.calls (l.length + 1) A2 c2 l k i _ w2 hC2 hc2 (refPut k i HT.out.sorted (by omega)))
      have hl2 := insL_length l k i
      have hB2 : Below w.heap.size w w2 := HB.out.trans (grownBy_below hg2 HB.out.size (fun k e => by injection e with e; omega))
      have HT2 := Aside0.mk hT2
      have HH2 := Aside0.mk hh2
      have HH20 := Aside0.mk hh20
      have HB2 := Aside0.mk hB2
      clear HP hT2 hh2 hh20 hB2 hR2 hC2
      go_wp2_with fail
      refine HPR.out.mono ?_
      rintro e w3 ⟨v3, rfl, hR3, hB3⟩
      obtain ⟨A3, c3, ev3, _, _⟩ := Kd.R_reads hR3
      have hlt2 := blk_lt HH2.out
      have hltT := HT2.out.lt
      have hh3 := (hB3.block _ hlt2).trans HH2.out
      have z1 : w3.cell? ⟨w.heap.size + 1, 1, none⟩ = some (.slice A2 l.length c2) := (blk_cell hh3 1).trans rfl
      have zf : w3.frozen? ⟨w.heap.size + 1, 1, none⟩ = false := blk_frozen hh3 1
      have hh30 := (hB3.block _ (blk_lt HH20.out)).trans HH20.out
      have hT3 := HT2.out.below hB3
      have hg4 : w3.grownBy (w3.setCell ⟨w.heap.size + 1, 1, none⟩ v3) (some (w.heap.size + 1)) := gb_set (grownBy_refl _ _) _ _
      have hB03 : Below w.heap.size w w3 := HB2.out.trans (hB3.mono HB2.out.size)
      have HI : Aside0 (FillInv order ks w (i + 1) (w3.setCell ⟨w.heap.size + 1, 1, none⟩ v3)) := by
        refine ⟨insL l k i, v3, ?_, ?_, ⟨(blk_set hh3 1 _).trans rfl, hT3.far hg4 (by omega), ?_⟩, (hg4.block _ (blk_lt hh30) (by intro e; injection e with e; omega)).trans hh30, hB03.trans (grownBy_below hg4 hB03.size (fun k e => by injection e with e; omega))⟩
        · have := HF.out
          rw [hdrop] at this
          exact this
        · rw [hl2]
          split <;> omega
        · have h1 := Kd.R_mono (ok' := fun k => k ≠ w.heap.size + 1 ∧ k ≠ w.heap.size + 3 ∧ k + 1 ≠ w.heap.size + 1) (Kd.R_bound hR3) (fun k hk => ⟨by omega, by omega, by omega⟩)
          exact Kd.R_grown (Kd.R_lower h1 (Nat.zero_le _)) hg4 (fun k hk e => by injection e with e; exact hk.1 e)
      clear HPR HH2 HH20 HB2 HT2 hR3 hB3 hh3 hh30 hT3 hg4 hB03
      clear hl2
      subst ev3
      go_wp2
      go_roundw
      case measure => show ks.length - (i + 1) < ks.length - i; omega
      case rel => exact ⟨i + 1, by first | rfl | (simp; done) | (congr 1), by omega, HI⟩
    · have b1 : decide (((i : Nat) : Int) < ((ks.length : Nat) : Int)) = false := decide_eq_false (by omega)
      obtain rfl : i = ks.length := by omega
      rw [List.drop_length] at hf
      have hf : l = fillL ks 0 [] := hf
      subst hf
      obtain ⟨A3, c3, ev3, _, _⟩ := Kd.R_reads hR
      subst ev3
      have z0 : wr.cell? ⟨w.heap.size, 0, none⟩ = some (.pointer none) := (blk_cell hh0 0).trans rfl
      have z1 : wr.cell? ⟨w.heap.size, 1, none⟩ = some (.slice none 0 0) := (blk_cell hh0 1).trans rfl
      have zf0 : wr.frozen? ⟨w.heap.size, 0, none⟩ = false := blk_frozen hh0 0
      have zf1 : wr.frozen? ⟨w.heap.size, 1, none⟩ = false := blk_frozen hh0 1
      have HT := Aside0.mk hT
      have HR := Aside0.mk hR
      have HB := Aside0.mk hB
      clear hT hR hB
      go_wp2
      have hlt0 := blk_lt hh0
      have hg : wr.grownBy ((wr.setCell ⟨w.heap.size, 0, none⟩ (.pointer (some ⟨w.heap.size + 3, 0, none⟩))).setCell ⟨w.heap.size, 1, none⟩ (.slice A3 (fillL ks 0 []).length c3)) (some w.heap.size) := gb_set (gb_set (grownBy_refl _ _) _ _) _ _
      refine bodyPost_ret (v := .agg #[.pointer (some ⟨w.heap.size + 3, 0, none⟩), .slice A3 (fillL ks 0 []).length c3]) (by simp [results, Try.results11, go_sem, z0, z1, zf0, zf1, sizes]) rfl ?_
      refine ⟨_, rfl, HT.out.far hg (by omega), Kd.R_grown HR.out hg (fun k hk e => by injection e with e; omega), HB.out.trans (grownBy_below hg HB.out.size (fun k e => by injection e with e; omega))⟩
theorem fillL_length : ∀ (ks : List ByteArray) (i : Nat) (l : List S59), (fillL ks i l).length ≤ l.length + ks.length
  | [], _, l => Nat.le_refl _
  | k :: ks, i, l => by
    have h := fillL_length ks (i + 1) (insL l k i)
    have h2 := insL_length l k i
    rw [List.length_cons]
    show (fillL ks (i + 1) (insL l k i)).length ≤ _
    split at h2 <;> omega

end Go.Proofs.Ytjabcdfbncglnaa
namespace Go.Proofs.Ytjabcdfbncglnaa
open Go.RowKit Go.Proofs.YtjabcdfbncglnaaW.PrintWords Go.Proofs.YtjabcdfbncglnaaW.PrintLast Go.Proofs.YtjabcdfbncglnaaW.PrintMore
open PTreeRanks (S59 k59 z59)
set_option linter.unusedVariables false
set_option linter.unusedSimpArgs false

set_option maxHeartbeats 4000000 in
set_option maxRecDepth 100000 in
theorem lite_clone (s : ByteArray) (w : World) (hlim : s.size ≤ 281474976710656) :
    Calls Try.prog 69 #[.string s] w fun e w' => e = .returned (.string s) ∧ Below w.heap.size w w' := by
  by_cases h0 : s.size = 0
  · have hs : s = ⟨#[]⟩ := by
      apply ByteArray.ext
      exact Array.eq_empty_of_size_eq_zero h0
    subst hs
    go_enter Try.func69, Try.ntmps69
    go_wp2
    go_ret
    exact ⟨rfl, Below.refl _ _⟩
  · obtain ⟨i0, hi, hz0, hz1, hz2⟩ : ∃ i0, Try.prog.info? 5 = some i0 ∧ i0.zero = some (.int .u8 0) ∧ i0.size = 1 ∧ i0.bytes = 1 := by
      have h : (Try.prog.info? 5).map (fun i => (i.zero, i.size, i.bytes)) = some (some (.int .u8 0), 1, 1) := by kernel_rfl
      obtain ⟨i0, e1, e2⟩ := Option.map_eq_some_iff.1 h
      injection e2 with a b
      injection b with b c
      exact ⟨i0, e1, a, b, c⟩
    have hinfo : (Try.prog.info? 5).map (·.size) = some 1 := by rw [hi]; simp [hz1]
    have hco : Try.prog.cellsOf 5 = 1 := by simp [Program.cellsOf, hi, hz1]
    obtain ⟨M, hM⟩ : ∃ M, M = madeCells (Value.int .u8 0).cells (((s.size : Nat) : Int).toNat * i0.size) := ⟨_, rfl⟩
    have hMs : M.size = s.size := by rw [hM, size_madeCells, hz1]; simp
    have hmk : ∀ W : World, (Instr.makeSlice 139 (.int .i64 (s.size : Int)) (.int .i64 (s.size : Int))).run Try.prog W = .ok (.slice (some ⟨W.heap.size, 0, none⟩) s.size s.size) (W.alloc (.cells M 5)) := fun W => by
      have h := run_make (P := Try.prog) W 139 5 i0 (.int .u8 0) Try.underlying139 hi hz0 .i64 .i64 (s.size : Int) (s.size : Int) (by omega) (by omega) (by rw [hz2]; omega) (by omega)
      rw [← hM] at h
      simpa using h
    clear hM
    have hcp := Lib.run_copy_row_string (P := Try.prog) (w.alloc (.cells M 5)) 139 9 3 5 w.heap.size 0 s.size s.size s M 5 Try.underlying139 hinfo (heap_alloc_new w _) (Nat.le_refl _) (by omega)
    obtain ⟨Y, hY⟩ : ∃ Y, Y = (M.toList.take 0 ++ Lib.byteCells s.data.toList ++ M.toList.drop (0 + s.size)).toArray := ⟨_, rfl⟩
    rw [← hY] at hcp
    have hYl : Y.toList = Lib.byteCells s.data.toList := by
      rw [hY, List.toList_toArray, List.take_zero, List.nil_append, List.drop_of_length_le (by rw [Array.length_toList]; omega), List.append_nil]
    have hYs : Y.size = s.size := by rw [← Array.length_toList, hYl, Lib.byteCells_length, ← Lib.size_eq]
    have hgY : ((w.alloc (.cells M 5)).setRow w.heap.size Y).heap[w.heap.size]? = some (.cells Y 5 (0, 0)) := setRow_heap _ _ M _ 5 (0, 0) (heap_alloc_new w _)
    have hne : s.data.toList ≠ [] := fun e => h0 (by rw [Lib.size_eq, e]; rfl)
    have hUS := Lib.run_unsafeString_row (P := Try.prog) ((w.alloc (.cells M 5)).setRow w.heap.size Y) 140 3 9 5 Try.underlying140 hco w.heap.size Y.size (by unfold World.shape?; rw [hgY]) s.data.toList hne (by rw [← Lib.size_eq]; omega) (by rw [← Lib.size_eq]; omega)
      (fun j x hx => Lib.cells_of_row hgY Y.size j _ (by rw [List.take_of_length_le (by rw [Array.length_toList]; exact Nat.le_refl _), hYl]; simp [Lib.byteCells, hx]))
    rw [← Lib.size_eq] at hUS
    clear hY
    go_enter Try.func69, Try.ntmps69
    go_wp2
    go_ret
    have hb1 : Below w.heap.size w (w.alloc (.cells M 5)) := (Below.refl _ w).alloc (Nat.le_refl _) _
    have hb2 : Below w.heap.size (w.alloc (.cells M 5)) ((w.alloc (.cells M 5)).setRow w.heap.size Y) := ⟨rfl, rfl, rfl, by simp, fun k hk => setRow_other _ _ _ _ (by omega)⟩
    exact ⟨rfl, Lib.below_freeze (hb1.trans hb2) (p := ⟨w.heap.size, 0, none⟩) (Nat.le_refl _) _⟩

theorem str_clone (s : ByteArray) (w : World) (hlim : s.size ≤ 281474976710656) :
    Calls Try.prog 53 #[.string s] w fun e w' => e = .returned (.string s) ∧ Below w.heap.size w w' := by
  have H := Aside0.mk (lite_clone s w hlim)
  go_enter Try.func53, Try.ntmps53
  go_wp2_with fail
  refine H.out.mono ?_
  rintro e w' ⟨rfl, hb⟩
  go_wp2
  go_ret
  exact ⟨rfl, hb⟩
end Go.Proofs.Ytjabcdfbncglnaa
namespace Go.Proofs.Ytjabcdfbncglnaa
open Go.RowKit Go.Proofs.YtjabcdfbncglnaaW.PrintWords Go.Proofs.YtjabcdfbncglnaaW.PrintLast Go.Proofs.YtjabcdfbncglnaaW.PrintMore
open PTreeRanks (S59 k59 z59)
set_option linter.unusedVariables false
set_option linter.unusedSimpArgs false

theorem info9 : (Try.prog.info? 9).map (fun i => (i.zero, i.size, i.bytes)) = some (some (.string ⟨#[]⟩), 1, 16) := by kernel_rfl

set_option maxHeartbeats 4000000 in
set_option maxRecDepth 100000 in
theorem cloned_calls (A : Option Addr) (c : Nat) (ks : List ByteArray) (w : World) (hC : Kd.C Kd.string w A ks.length ks) (hc : ks.length ≤ c) (hn : ks.length ≤ 1099511627776) (hz : ∀ k ∈ ks, k.size ≤ 281474976710656) :
    Calls Try.prog 36 #[.slice A ks.length c] w fun e w' => ∃ v, e = .returned v ∧ Kd.string.R 9 w' w.heap.size (fun _ => True) v ks ∧ Below w.heap.size w w' := by
  have HC := Aside0.mk hC
  clear hC
  go_enter Try.func36, Try.ntmps36
  go_wp2
  go_loopw [3, 8] (fun v3 v8 W => ∃ i : Nat, v8 = .int .i64 i ∧ i ≤ ks.length ∧ Aside0 (Kd.string.R 9 W w.heap.size (fun _ => True) v3 (ks.take i)) ∧ Aside0 (Below w.heap.size w W)) (fun _ v8 _ => ks.length - (RowKit.intOf v8).toNat)
  case atStart => exact ⟨0, rfl, Nat.zero_le _, ⟨Kd.R_nil _ _ _ _ _⟩, ⟨Below.refl _ _⟩⟩
  case round =>
    obtain ⟨i, rfl, hi, HR, HB⟩ := hrel
    by_cases hlt : i < ks.length
    · have b1 : decide (((i : Nat) : Int) < ((ks.length : Nat) : Int)) = true := decide_eq_true (by omega)
      have p0 : (0 : Int) ≤ ((i : Nat) : Int) := by omega
      have p1 : ((i : Nat) : Int) < ((ks.length : Nat) : Int) := by omega
      obtain ⟨ad, rfl, hcell⟩ := Kd.at_string (Kd.C_below HC.out HB.out) i p0 p1
      have hcell : wr.cell? (ad.add i) = some (.string ks[i]) := by
        rw [rdOf_eq _ _ hlt] at hcell
        exact hcell
      have HK := Aside0.mk (str_clone ks[i] wr (hz _ (List.getElem_mem _)))
      have HT : Aside0 (ks.take (i + 1) = ks.take i ++ [ks[i]]) := ⟨List.take_succ_eq_append_getElem hlt⟩
      replace p0 := eq_true p0
      replace p1 := eq_true p1
      have HN : Aside0 ((ks.take i).length ≤ 1099511627776) := ⟨by rw [List.length_take]; omega⟩
      clear hz
      generalize ks[i] = k at *
      go_wp2_with fail
      refine HK.out.mono ?_
      rintro e w2 ⟨rfl, hb2⟩
      have HB2 := Aside0.mk (below_go (W0 := w) hb2 (w1 := wr) (by exact HB.out))
      have HR2 := Aside0.mk (Kd.R_below HR.out hb2)
      clear HK HB HR
      go_wp2_with ((with_reducible refine gate_builtin (b := .append) (xs := #[.tmp 12, .tmp 15]) rfl ?_); at_builtin; refine Kd.R_append Kd.string (w0 := w) w.heap.size rfl (.tmp 12) (.tmp 15) 22 9 (.string ⟨#[]⟩) 16 rfl Try.underlying22 info9 rfl (by decide) (by omega) u3 (ks.take i) k [.string k] (fun _ => True) (fun _ => False) rfl rfl ?aP (fun _ hk => hk.elim) ?aF ?aO ?aB ?aS ?aL ?_; (case aP => rfl); (case aF => exact fun _ _ => trivial); (case aO => exact HR2.out); (case aB => exact HB2.out); (case aS => exact HB2.out.size); (case aL => have := HN.out; omega); intro v1 w3 ho hb hg hat; have HO := Aside0.mk ho; have HB3 := Aside0.mk hb; clear ho hb hg hat)
      go_roundw
      case measure => show ks.length - (i + 1) < ks.length - i; omega
      case rel => exact ⟨i + 1, by first | rfl | (simp; done) | (congr 1), by omega, ⟨by rw [HT.out]; exact HO.out⟩, HB3⟩
    · have b1 : decide (((i : Nat) : Int) < ((ks.length : Nat) : Int)) = false := decide_eq_false (by omega)
      obtain rfl : i = ks.length := by omega
      rw [List.take_length] at HR
      go_wp2
      go_ret
      exact ⟨_, rfl, HR.out, HB.out⟩
end Go.Proofs.Ytjabcdfbncglnaa
namespace Go.Proofs.Ytjabcdfbncglnaa
open Go.RowKit Go.Proofs.YtjabcdfbncglnaaW.PrintWords Go.Proofs.YtjabcdfbncglnaaW.PrintLast Go.Proofs.YtjabcdfbncglnaaW.PrintMore
open PTreeRanks (S59 k59 z59 S43 k43 z43)
set_option linter.unusedVariables false
set_option linter.unusedSimpArgs false

/-- What Nodes tells of a node when the queue has n nodes. -/
def nodeOf : AT → Nat → S43
  | ⟨0, l⟩, _ => ⟨true, List.map S59.f0 l, []⟩
  | ⟨_ + 1, t⟩, n => ⟨false, t.1, (List.range t.2.length).map fun i => ((n + i : Nat) : Int)⟩
def kidsA : AT → List AT
  | ⟨0, _⟩ => []
  | ⟨d + 1, t⟩ => t.2.map fun c => ⟨d, c⟩
/-- The walk through the queue. -/
def bfs : Nat → List AT → Nat → List S43 → Option (List S43)
  | 0, _, _, _ => none
  | g + 1, q, i, out => match q[i]? with
    | none => some out
    | some t => bfs g (q ++ kidsA t) (i + 1) (out ++ [nodeOf t q.length])

theorem bfs_length : ∀ {g : Nat} {q : List AT} {i : Nat} {out r : List S43}, bfs g q i out = some r → out.length = i → i ≤ q.length → q.length ≤ r.length
  | 0, q, i, out, r, h, _, _ => by cases h
  | g + 1, q, i, out, r, h, h1, h2 => by
    unfold bfs at h
    cases hq : q[i]? with
    | none =>
      rw [hq] at h
      have := List.getElem?_eq_none_iff.1 hq
      injection h with h
      subst h
      omega
    | some t =>
      rw [hq] at h
      have hlt := (List.getElem?_eq_some_iff.1 hq).1
      have := bfs_length h (by simp [h1]) (by rw [List.length_append]; omega)
      rw [List.length_append] at this
      omega

/-- What is asked of a node of the queue. -/
def GoodA (t : AT) : Prop := Shape t.1 t.2 ∧ KeysLe 281474976710656 t.1 t.2
theorem GoodA_kids {t : AT} (h : GoodA t) : ∀ c ∈ kidsA t, GoodA c := by
  obtain ⟨d, t⟩ := t
  cases d with
  | zero => intro c hc; cases hc
  | succ d =>
    intro c hc
    obtain ⟨c', hc', rfl⟩ := List.mem_map.1 hc
    exact ⟨h.1.2.2.2 c' hc', h.2.2 c' hc'⟩

section
variable {w w1 : World} {base base' e e' s n m : Nat} {v u : Value} {xs ys : List Value}
theorem own_differ' {s' n' : Nat} (h : w.ownsRow base e s v n xs) (h' : w.ownsRow base' e' s' u n' ys) : e ≠ e' → v.ownBlock = none ∨ v.ownBlock ≠ u.ownBlock := by
  intro hne
  cases hv : v.ownBlock with
  | none => exact .inl rfl
  | some k =>
    right
    intro e
    obtain ⟨c1, h1⟩ := own_typed h k hv
    obtain ⟨c2, h2⟩ := own_typed h' k e.symm
    rw [h1] at h2
    injection h2 with h2
    injection h2 with _ h2 _
    exact hne h2
theorem own_off (h : w.ownsRow base e s v n xs) {g t : Nat} {c : Array Value} (hb : w.heap[g]? = some (.cells c t (0, 0))) (ht : e ≠ t) : v.ownBlock = none ∨ v.ownBlock ≠ some g := by
  cases hv : v.ownBlock with
  | none => exact .inl rfl
  | some k =>
    right
    intro e
    injection e with e
    subst e
    obtain ⟨c1, h1⟩ := own_typed h k hv
    rw [hb] at h1
    injection h1 with h1
    injection h1 with _ h1 _
    exact ht h1.symm
theorem blk_kept (h : w.ownsRow base e s v n xs) {g t : Nat} {c : Array Value} (hb : w.heap[g]? = some (.cells c t (0, 0))) (ht : e ≠ t) (hg : w.grownBy w1 v.ownBlock) : w1.heap[g]? = some (.cells c t (0, 0)) := by
  refine (hg.block g (blk_lt hb) ?_).trans hb
  intro e
  rcases own_off h hb ht with h1 | h1
  · rw [h1] at e; cases e
  · exact h1 e.symm
theorem R_apart {α : Type} {d : Kd α} {ok : Nat → Prop} {zs : List α} (h : d.R e w base ok v zs) {s' n' : Nat} (ho : w.ownsRow base' e' s' u n' ys) (ht : ∀ q, q ∈ e :: d.E → q ≠ e') (hg : w.grownBy w1 u.ownBlock) : d.R e w1 base ok v zs := by
  cases hu : u.ownBlock with
  | none =>
    rw [hu] at hg
    exact Kd.R_grown h hg (fun k _ e => by cases e)
  | some g =>
    rw [hu] at hg
    obtain ⟨c, hc⟩ := own_typed ho g hu
    exact Kd.R_mono (Kd.R_grown (Kd.R_types h hc ht) hg (fun k hk e => by injection e with e; exact hk.2 e)) (fun k hk => hk.1)
theorem S_apart {α : Type} {d : Kd α} {ok : Nat → Prop} {zs : List α} (h : Kd.S d e w base ok v zs) {s' n' : Nat} (ho : w.ownsRow base' e' s' u n' ys) (ht : ∀ q, q ∈ e :: d.E → q ≠ e') (hg : w.grownBy w1 u.ownBlock) : Kd.S d e w1 base ok v zs := by
  cases hu : u.ownBlock with
  | none =>
    rw [hu] at hg
    exact Kd.S_grown h hg (fun k _ e => by cases e)
  | some g =>
    rw [hu] at hg
    obtain ⟨c, hc⟩ := own_typed ho g hu
    exact Kd.S_mono (Kd.S_grown (Kd.S_types h hc ht) hg (fun k hk e => by injection e with e; exact hk.2 e)) (fun k hk => hk.1)
end
end Go.Proofs.Ytjabcdfbncglnaa
namespace Go.Proofs.Ytjabcdfbncglnaa
open Go.RowKit Go.Proofs.YtjabcdfbncglnaaW.PrintWords Go.Proofs.YtjabcdfbncglnaaW.PrintLast Go.Proofs.YtjabcdfbncglnaaW.PrintMore
open PTreeRanks (S59 k59 z59 S43 k43 z43)
set_option linter.unusedVariables false
set_option linter.unusedSimpArgs false

theorem info43 : (Try.prog.info? 43).map (fun i => (i.zero, i.size, i.bytes)) = some (some (.agg #[.bool false, .slice none 0 0, .slice none 0 0]), 3, 56) := by kernel_rfl
theorem info3 : (Try.prog.info? 3).map (fun i => (i.zero, i.size, i.bytes)) = some (some (.int .i64 0), 1, 8) := by kernel_rfl
theorem info69 : (Try.prog.info? 69).map (fun i => (i.zero, i.size, i.bytes)) = some (some .nilIface, 1, 16) := by kernel_rfl

def QEl (w : World) (q : List AT) (vs : List Value) : Prop := Elems (fun (t : AT) v => (NK t.1).K w t.2 [v]) q vs

/-- What stands when n nodes are told. -/
def NdInv (w : World) (q : List AT) (out : List S43) (v3 v4 : Value) (W : World) : Prop :=
  (∃ vs, W.ownsRow w.heap.size 69 1 v3 q.length vs ∧ QEl w q vs) ∧ Kd.S k43 43 W w.heap.size (fun _ => True) v4 out ∧ Below w.heap.size w W

def rangeI (n j : Nat) : List Int := (List.range j).map fun i => ((n + i : Nat) : Int)
theorem rangeI_succ (n j : Nat) : rangeI n (j + 1) = rangeI n j ++ [((n + j : Nat) : Int)] := by
  unfold rangeI
  rw [List.range_succ, List.map_append]
  rfl

/-- What stands when j kids of a node have been told; its cells lie in block nb. -/
def KidInv (w : World) (q : List AT) (out : List S43) (s0 nb : Nat) (keys : List ByteArray) (d : Nat) (cs : List (T d)) (Ak : Option Addr) (ck : Nat) (v4 : Value) (j : Nat) (v3 : Value) (W : World) : Prop :=
  ∃ iv, W.heap[nb]? = some (.cells #[.bool false, .slice Ak keys.length ck, iv] 43 (0, 0)) ∧ Kd.string.R 9 W w.heap.size (fun k => s0 ≤ k ∧ k < nb) (.slice Ak keys.length ck) keys ∧ (Kd.int .i64).R 3 W w.heap.size (fun k => nb < k) iv (rangeI q.length j) ∧
    Kd.S k43 43 W w.heap.size (fun k => k < s0) v4 out ∧ (∃ vs, W.ownsRow w.heap.size 69 1 v3 (q.length + j) vs ∧ QEl w (q ++ (cs.take j).map fun c => (⟨d, c⟩ : AT)) vs) ∧ Below w.heap.size w W

set_option maxHeartbeats 4000000 in
set_option maxRecDepth 100000 in
theorem nodes_calls (b : Nat) (t : AT) (v : Value) (w : World) (h1 : w.cell? ⟨b, 1, none⟩ = some v) (hK : (NK t.1).K w t.2 [v]) (hG : GoodA t) (g : Nat) (r : List S43) (hr : bfs g [t] 0 [] = some r) (hN : r.length ≤ 1099511627776) :
    Calls Try.prog 17 #[.pointer (some ⟨b, 0, none⟩)] w fun e w' => ∃ v, e = .returned v ∧ Kd.S k43 43 w' w.heap.size (fun _ => True) v r ∧ Below w.heap.size w w' := by
  have hno := Aside0.mk (none_some b w hK h1)
  have hq0 : QEl w [t] [v] := Elems.one (R := fun (t : AT) v => (NK t.1).K w t.2 [v]) hK
  obtain ⟨ty, bt, rfl⟩ := NK_form hK
  have HQ0 := Aside0.mk hq0
  have HR := Aside0.mk hr
  have HG := Aside0.mk hG
  have HNN := Aside0.mk hN
  clear hK hq0 hr hG hN
  have k1 := ta_leaf
  have k2 := ta_leaf_no
  have k3 := ta_inner
  have k4 := ta_inner_no
  have hu43 := Try.underlying43
  go_enter Try.func17, Try.ntmps17
  go_wp2_with fail
  refine hno.out.mono ?_
  rintro e w' ⟨rfl, rfl⟩
  clear hno
  go_wp2
  go_loopg [3, 4, 5] g (fun kq v3 v4 v5 W => ∃ (q : List AT) (out : List S43), v5 = .int .i64 (out.length : Nat) ∧ Aside0 (bfs kq q out.length out = some r) ∧ Aside0 (out.length ≤ q.length) ∧ Aside0 (∀ t ∈ q, GoodA t) ∧ Aside0 (NdInv w q out v3 v4 W))
  case atStart =>
    refine ⟨[t], [], rfl, HR, ⟨Nat.zero_le _⟩, ⟨fun x hx => by rw [List.mem_singleton.1 hx]; exact HG.out⟩, ⟨⟨[.iface ty (.pointer (some ⟨bt, 0, none⟩))], ?_, HQ0.out⟩, Kd.S_nil _ _ _ _ _, below_mk (Below.refl _ _) _⟩⟩
    exact own_of_heap (cap := 1) (cur := [.iface ty (.pointer (some ⟨bt, 0, none⟩))]) (Nat.le_refl _) (heap_alloc_new w _) rfl (by decide) (Nat.le_refl _) rfl
  case round =>
    clear HR HG HQ0
    obtain ⟨q, out, rfl, HF, HL, HG, HI⟩ := hrel
    cases gk with
    | zero => exact absurd HF.out (by simp [bfs])
    | succ g =>
      obtain ⟨⟨vs, hown, hel⟩, hRo, hB⟩ := HI.out
      obtain ⟨A3, c3, rfl, hc3, hc3m, hlv, hcells⟩ := own_cells hown
      by_cases hlt : out.length < q.length
      · have b1 : decide (((out.length : Nat) : Int) < ((q.length : Nat) : Int)) = true := decide_eq_true (by omega)
        have p1 : ((out.length : Nat) : Int) < ((q.length : Nat) : Int) := by omega
        have p0 : (0 : Int) ≤ ((out.length : Nat) : Int) := by omega
        obtain ⟨vi, hvi, hKi⟩ := hel.get out.length hlt
        obtain ⟨ad, rfl, hcell⟩ := hcells (by omega)
        have hci := hcell out.length vi hvi
        have hgi := HG.out _ (List.getElem_mem hlt)
        have HF2 : Aside0 (bfs g (q ++ kidsA q[out.length]) (out ++ [nodeOf q[out.length] q.length]).length (out ++ [nodeOf q[out.length] q.length]) = some r) := ⟨by
          have hf := HF.out
          unfold bfs at hf
          rw [List.getElem?_eq_getElem hlt] at hf
          rw [List.length_append]
          exact hf⟩
        have HGK := Aside0.mk (GoodA_kids hgi)
        have HNR : Aside0 (q.length ≤ r.length) := ⟨bfs_length HF.out rfl HL.out⟩
        have HON := Aside0.mk hown
        have HRO := Aside0.mk hRo
        have HB := Aside0.mk hB
        have HEL := Aside0.mk hel
        replace p0 := eq_true p0
        replace p1 := eq_true p1
        clear hown hRo hB hel HI HF hcells hcell hvi
        rcases hqi : q[out.length] with ⟨d, t⟩
        rw [hqi] at hKi hgi HF2 HGK
        cases d with
        | zero =>
          obtain ⟨l, rfl⟩ : ∃ l : List S59, l = t := ⟨t, rfl⟩
          obtain ⟨bl, A, c, A', c', rfl, x0, x1, hc, hc', hA, hA'⟩ := leaf_open hKi
          have y0 := pw_cell_below HB.out x0
          have HC : Aside0 (Calls Try.prog 36 #[.slice A l.length c] wr fun e w' => ∃ v, e = .returned v ∧ Kd.string.R 9 w' wr.heap.size (fun _ => True) v (l.map S59.f0) ∧ Below wr.heap.size wr w') := ⟨by
            have h9 : l.length ≤ 900 := hgi.1.2
            have := cloned_calls A c (l.map S59.f0) wr (by rw [List.length_map]; exact Kd.C_below hA HB.out) (by rw [List.length_map]; exact hc) (by rw [List.length_map]; omega) (fun k hk => by obtain ⟨x, hx, rfl⟩ := List.mem_map.1 hk; exact hgi.2 x hx)
            rwa [List.length_map] at this⟩
          clear x0 x1 hA hA' hKi hc hc' hgi
          go_wp2_with fail
          refine HC.out.mono ?_
          rintro e w2 ⟨kv, rfl, hRk, hb2⟩
          obtain ⟨Ak, ck, rfl, hck, hCk⟩ := Kd.R_reads hRk
          have hsz := HB.out.size
          have HM2 : Aside0 (k43.M w2 w.heap.size (fun k => wr.heap.size ≤ k) ⟨true, l.map S59.f0, []⟩ [.bool true, .slice Ak (l.map S59.f0).length ck, .slice none 0 0]) := ⟨PTreeRanks.k43_mkM _ _ _ _ (Kd.R_lower (Kd.R_mono (Kd.R_bound hRk) (fun k hk => hk.2.1)) hsz) (Kd.R_nil _ _ _ _ _)⟩
          have HLT : Aside0 (∀ k, wr.heap.size ≤ k → True ∧ some k ≠ u4.ownBlock) := ⟨fun k hk => ⟨trivial, fun e => by have := Kd.S_lt HRO.out k e.symm; omega⟩⟩
          have HRO2 : Aside0 (Kd.S k43 43 w2 w.heap.size (fun k => True ∧ ¬ wr.heap.size ≤ k) u4 out) := ⟨Kd.S_below (Kd.S_mono (Kd.S_bound HRO.out) (fun k hk => ⟨trivial, by have := hk.2.2.1; omega⟩)) hb2⟩
          have HON2 := Aside0.mk (own_move HON.out (fun k hk => hb2.block k (own_lt HON.out k hk)))
          have HB2 := Aside0.mk (below_go (W0 := w) hb2 (w1 := wr) (by exact HB.out))
          clear hRk hCk hb2 hck hsz y0 HC HON HRO HB
          generalize (l.map S59.f0).length = nk at *
          go_wp2_with ((with_reducible refine gate_builtin (b := .append) (xs := #[.tmp 31, .tmp 38]) rfl ?_); at_builtin; refine Kd.S_append k43 (w0 := w) w.heap.size rfl (.tmp 31) (.tmp 38) 37 43 (.agg #[.bool false, .slice none 0 0, .slice none 0 0]) 56 rfl Try.underlying37 info43 rfl (by decide) (by omega) u4 out (⟨true, l.map S59.f0, []⟩ : S43) [.bool true, .slice Ak nk ck, .slice none 0 0] (fun _ => True) (fun k => wr.heap.size ≤ k) rfl rfl ?aP HLT.out ?aF ?aO ?aB ?aS ?aL ?_; (case aP => exact HM2.out); (case aF => exact fun _ _ => trivial); (case aO => exact HRO2.out); (case aB => exact HB2.out); (case aS => exact HB2.out.size); (case aL => have := HNR.out; have := HNN.out; omega); intro v1 w3 ho hb hg hat; have HO := Aside0.mk ho; have HB3 := Aside0.mk hb; have HG3 := Aside0.mk hg; clear ho hb hg hat)
          have HON3 := Aside0.mk (own_other HON2.out HG3.out (by obtain ⟨inner, hi⟩ := Kd.S_own HRO2.out; exact own_differ' HON2.out hi (by decide)))
          go_roundg g
          case measure => omega
          case rel =>
            refine ⟨q, out ++ [⟨true, l.map S59.f0, []⟩], ?_, ?_, ?_, HG, ⟨⟨⟨vs, HON3.out, HEL.out⟩, HO.out, HB3.out⟩⟩⟩
            · first | rfl | (simp; done) | (congr 1; simp; done)
            · have := HF2.out
              rw [show kidsA ⟨0, l⟩ = [] from rfl, List.append_nil] at this
              exact ⟨this⟩
            · exact ⟨by rw [List.length_append]; show out.length + 1 ≤ q.length; omega⟩
        | succ d =>
          obtain ⟨ks, cs, rfl⟩ : ∃ (ks : List ByteArray) (cs : List (T d)), ((ks, cs) : List ByteArray × List (T d)) = t := ⟨t.1, t.2, rfl⟩
          obtain ⟨bl, A, c, A', c', rfl, x0, x1, x2, hc, hc', hA, hA'⟩ := inner_open hKi
          have y0 := pw_cell_below HB.out x0
          have h9 : ks.length ≤ 900 := hgi.1.2.2.1
          have h9' : cs.length = ks.length + 1 := hgi.1.2.1
          have HC : Aside0 (Calls Try.prog 36 #[.slice A ks.length c] wr fun e w' => ∃ v, e = .returned v ∧ Kd.string.R 9 w' wr.heap.size (fun _ => True) v ks ∧ Below wr.heap.size wr w') := ⟨cloned_calls A c ks wr (Kd.C_below hA HB.out) hc (by omega) hgi.2.1⟩
          have HA' := Aside0.mk hA'
          have hnk : cs.length ≤ 901 := by omega
          clear x0 x2 hA hA' hKi hc hgi h9 h9'
          go_wp2_with fail
          refine HC.out.mono ?_
          rintro e w2 ⟨kv, rfl, hRk, hb2⟩
          obtain ⟨Ak, ck, rfl, hck, hCk⟩ := Kd.R_reads hRk
          have HB2 := Aside0.mk (below_go (W0 := w) hb2 (w1 := wr) (by exact HB.out))
          have y1 : (w2.alloc (.cells #[.bool false, .slice Ak ks.length ck, .slice none 0 0] 43)).cell? ⟨bl, 1, none⟩ = some (.slice A' cs.length c') := pw_cell_below (below_mk HB2.out _) x1
          have HI : Aside0 (KidInv w q out wr.heap.size w2.heap.size ks d cs Ak ck u4 0 (.slice (some ad) q.length c3) (w2.alloc (.cells #[.bool false, .slice Ak ks.length ck, .slice none 0 0] 43))) := by
            have hs2 := hb2.size
            refine ⟨_, heap_alloc_new w2 _, Kd.R_alloc (Kd.R_lower (Kd.R_mono (Kd.R_bound hRk) (fun k hk => ⟨hk.2.1, hk.2.2.1⟩)) HB.out.size) _, Kd.R_nil _ _ _ _ _, ?_, ⟨vs, ?_, ?_⟩, below_mk HB2.out _⟩
            · exact Kd.S_alloc (Kd.S_below (Kd.S_mono (Kd.S_bound HRO.out) (fun k hk => hk.2.2.1)) hb2) _
            · exact own_move HON.out (fun k hk => by
                have hl := own_lt HON.out k hk
                exact (Below.heap_alloc _ _ _ (by omega)).trans (hb2.block k hl))
            · rw [List.take_zero, List.map_nil, List.append_nil]
              exact HEL.out
          have hs02 := hb2.size
          clear hRk hCk hb2 hck y0 HC HON HRO x1
          go_wp2
          clear HB hci
          have hwnb := HB2.out.size
          clear HB2
          generalize wr.heap.size = s0 at *
          generalize w2.heap.size = nb at *
          go_loopg [3, 54] cs.length (fun kq v3 v54 W => ∃ j : Nat, kq + j = cs.length ∧ v54 = .int .i64 j ∧ Aside0 (KidInv w q out s0 nb ks d cs Ak ck u4 j v3 W))
          case atStart => exact ⟨0, rfl, rfl, HI⟩
          case round =>
            clear HI y1
            obtain ⟨j, hkj, rfl, HI⟩ := hrel
            obtain ⟨iv, hh, hRk, hRi, hRo, ⟨vs', hown, hel⟩, hB⟩ := HI.out
            obtain ⟨Ai, ci, rfl, _, _⟩ := Kd.R_reads hRi
            obtain ⟨A3', c3', rfl, hc3', hc3m', hlv', _⟩ := own_cells hown
            have z0 : wr.cell? ⟨nb, 0, none⟩ = some (.bool false) := (blk_cell hh 0).trans rfl
            have z1 : wr.cell? ⟨nb, 1, none⟩ = some (.slice Ak ks.length ck) := (blk_cell hh 1).trans rfl
            have z2 : wr.cell? ⟨nb, 2, none⟩ = some (.slice Ai (rangeI q.length j).length ci) := (blk_cell hh 2).trans rfl
            have HH := Aside0.mk hh
            have HRk := Aside0.mk hRk
            have HRi := Aside0.mk hRi
            have HRo := Aside0.mk hRo
            have HON := Aside0.mk hown
            have HEL2 := Aside0.mk hel
            have HB := Aside0.mk hB
            clear hh hRk hRi hRo hown hel hB HI
            cases gk with
            | zero =>
              obtain rfl : j = cs.length := by omega
              have b2 : decide (((cs.length : Nat) : Int) < ((cs.length : Nat) : Int)) = false := decide_eq_false (by omega)
              rw [List.take_length] at HEL2
              have HM2 : Aside0 (k43.M wr w.heap.size (fun k => s0 ≤ k) ⟨false, ks, rangeI q.length cs.length⟩ [.bool false, .slice Ak ks.length ck, .slice Ai (rangeI q.length cs.length).length ci]) := ⟨PTreeRanks.k43_mkM _ _ _ ⟨false, ks, rangeI q.length cs.length⟩ (Kd.R_mono HRk.out (fun k hk => hk.1)) (Kd.R_mono HRi.out (fun k hk => by omega))⟩
              have HLT : Aside0 (∀ k, s0 ≤ k → True ∧ some k ≠ u4.ownBlock) := ⟨fun k hk => ⟨trivial, fun e => by have := (Kd.S_R HRo.out).1 k e.symm; omega⟩⟩
              have HL9 : Aside0 (out.length ≤ 1099511627776) := ⟨by have := HNR.out; have := HNN.out; omega⟩
              go_wp2_with ((with_reducible refine gate_builtin (b := .append) (xs := #[.tmp 70, .tmp 72]) rfl ?_); at_builtin; refine Kd.S_append k43 (w0 := w) w.heap.size rfl (.tmp 70) (.tmp 72) 37 43 (.agg #[.bool false, .slice none 0 0, .slice none 0 0]) 56 rfl Try.underlying37 info43 rfl (by decide) (by omega) u4 out (⟨false, ks, rangeI q.length cs.length⟩ : S43) [.bool false, .slice Ak ks.length ck, .slice Ai (rangeI q.length cs.length).length ci] (fun _ => True) (fun k => s0 ≤ k) rfl rfl ?aP HLT.out ?aF ?aO ?aB ?aS ?aL ?_; (case aP => exact HM2.out); (case aF => exact fun _ _ => trivial); (case aO => exact Kd.S_mono HRo.out (fun k hk => ⟨trivial, by omega⟩)); (case aB => exact HB.out); (case aS => exact HB.out.size); (case aL => have := HL9.out; omega); intro v1 w3 ho hb hg hat; have HO := Aside0.mk ho; have HB3 := Aside0.mk hb; have HG3 := Aside0.mk hg; clear ho hb hg hat)
              have HON3 := Aside0.mk (own_other HON.out HG3.out (by obtain ⟨inner, hi⟩ := Kd.S_own HRo.out; exact own_differ' HON.out hi (by decide)))
              go_roundg g
              case measure => omega
              case rel =>
                have eq' : (q ++ cs.map fun c => (⟨d, c⟩ : AT)).length = q.length + cs.length := by rw [List.length_append, List.length_map]
                refine ⟨q ++ cs.map (fun c => (⟨d, c⟩ : AT)), out ++ [⟨false, ks, rangeI q.length cs.length⟩], ?_, ?_, ?_, ?_, ⟨⟨⟨vs', ?_, HEL2.out⟩, HO.out, HB3.out⟩⟩⟩
                · first | rfl | (simp; done) | (congr 1; simp; done)
                · exact HF2
                · exact ⟨by rw [List.length_append, eq']; show out.length + 1 ≤ _; omega⟩
                · refine ⟨fun t ht => ?_⟩
                  rcases List.mem_append.1 ht with ht | ht
                  · exact HG.out t ht
                  · exact HGK.out t ht
                · rw [eq']
                  exact HON3.out
            | succ gk =>
              have hj : j < cs.length := by omega
              have b2 : decide (((j : Nat) : Int) < ((cs.length : Nat) : Int)) = true := decide_eq_true (by omega)
              have q1 : ((j : Nat) : Int) < ((cs.length : Nat) : Int) := by omega
              have q0 : (0 : Int) ≤ ((j : Nat) : Int) := by omega
              obtain ⟨ad2, vj, rfl, hcj, hKj⟩ := C_kid HA'.out j hj
              obtain ⟨tj, bj, rfl⟩ := NK_form hKj
              have HKj := Aside0.mk hKj
              have y2 := pw_cell_below HB.out hcj
              clear hcj hKj
              replace q0 := eq_true q0
              replace q1 := eq_true q1
              have HLI : Aside0 ((rangeI q.length j).length = j) := ⟨by unfold rangeI; simp⟩
              have HIB : Aside0 (∀ k, (Value.slice Ai (rangeI q.length j).length ci).ownBlock = some k → nb < k) := ⟨HRi.out.1⟩
              have HMX : Aside0 (q.length + j ≤ 1099511628800) := ⟨by have := HNR.out; have := HNN.out; omega⟩
              go_wp2_with (first
                | ((with_reducible refine gate_builtin (b := .append) (xs := #[.tmp 59, .tmp 62]) rfl ?_); at_builtin; refine Kd.R_append (Kd.int .i64) (w0 := w) w.heap.size rfl (.tmp 59) (.tmp 62) 41 3 (.int .i64 0) 8 rfl Try.underlying41 info3 rfl (by decide) (by omega) (.slice Ai (rangeI q.length j).length ci) (rangeI q.length j) ((q.length + j : Nat) : Int) [.int .i64 ((q.length + j : Nat) : Int)] (fun k => nb < k) (fun k => False) rfl rfl ?aP (fun k hk => hk.elim) ?aF ?aO ?aB ?aS ?aL ?_; (case aP => rfl); (case aF => have := blk_lt HH.out; exact fun k hk => by omega); (case aO => exact HRi.out); (case aB => exact HB.out); (case aS => exact HB.out.size); (case aL => have := HLI.out; omega); intro v1 w3 ho hb hg hat; rw [← rangeI_succ] at ho; obtain ⟨A1, c1, ev1, _, _⟩ := Kd.R_reads ho; subst ev1; have hh3 := (hg.block nb (blk_lt HH.out) (fun e => by have := HIB.out nb e.symm; omega)).trans HH.out; have z3 : w3.cell? ⟨nb, 2, none⟩ = some (.slice Ai (rangeI q.length j).length ci) := (blk_cell hh3 2).trans rfl; have zf : w3.frozen? ⟨nb, 2, none⟩ = false := blk_frozen hh3 2; have HO := Aside0.mk ho; have HB3 := Aside0.mk hb; have HG3 := Aside0.mk hg; have HH3 := Aside0.mk hh3; clear ho hb hg hat hh3; have HG4 : Aside0 (w3.grownBy (w3.setCell ⟨nb, 2, none⟩ (.slice A1 (rangeI q.length (j + 1)).length c1)) (some nb)) := ⟨gb_set (grownBy_refl _ _) _ _⟩; have HON3 := Aside0.mk (own_other (own_other HON.out HG3.out (by obtain ⟨inner, hi⟩ := Kd.R_own HRi.out; exact own_differ' HON.out hi (by decide))) HG4.out (own_off (own_other HON.out HG3.out (by obtain ⟨inner, hi⟩ := Kd.R_own HRi.out; exact own_differ' HON.out hi (by decide))) HH3.out (by decide))); have HB4 := Aside0.mk (HB3.out.trans (grownBy_below HG4.out HB3.out.size (fun k e => by injection e with e; omega))))
                | ((with_reducible refine gate_builtin (b := .append) (xs := #[.tmp 65, .tmp 67]) rfl ?_); at_builtin; refine print_append_cells (w0 := w) w.heap.size rfl (.tmp 65) (.tmp 67) 79 69 .nilIface 1 16 rfl Try.underlying79 info69 rfl (by decide) (by decide) (.slice A3' (q.length + j) c3') (q.length + j) vs' [.iface tj (.pointer (some ⟨bj, 0, none⟩))] rfl ?ax rfl ?a1 ?aO ?aB ?aS ?aL ?_; (case ax => first | rfl | (simp; done) | (simp [go_sem]; done)); (case a1 => intro u hu; rw [List.mem_singleton.1 hu]; rfl); (case aO => exact HON3.out); (case aB => exact HB4.out); (case aS => exact HB4.out.size); (case aL => have := HMX.out; omega); intro v5 w5 ho5 hb5 hg5 hat5; have HO5 := Aside0.mk ho5; have HB5 := Aside0.mk hb5; have HG5 := Aside0.mk hg5; clear ho5 hb5 hg5 hat5))
              have HQ5 : Aside0 (QEl w (q ++ (cs.take (j + 1)).map fun c => (⟨d, c⟩ : AT)) (vs' ++ [.iface tj (.pointer (some ⟨bj, 0, none⟩))])) := ⟨by
                rw [List.take_succ_eq_append_getElem hj, List.map_append, ← List.append_assoc]
                exact Elems.append HEL2.out (Elems.one (R := fun (t : AT) v => (NK t.1).K w t.2 [v]) HKj.out)⟩
              have hk4 : k43.E = [9, 3] := rfl
              have HI5 : Aside0 (KidInv w q out s0 nb ks d cs Ak ck u4 (j + 1) v5 w5) := by
                have a1 := Kd.R_far (Kd.R_grown HRk.out HG3.out (fun k hk e => by have := HIB.out k e.symm; omega)) (p := ⟨nb, 2, none⟩) (fun k hk e => by have e : k = nb := e; omega) (.slice A1 (rangeI q.length (j + 1)).length c1)
                have a2 := Kd.S_far (Kd.S_grown HRo.out HG3.out (fun k hk e => by have := HIB.out k e.symm; omega)) (p := ⟨nb, 2, none⟩) (fun k hk e => by have e : k = nb := e; omega) (.slice A1 (rangeI q.length (j + 1)).length c1)
                have a3 := Kd.R_far HO.out (p := ⟨nb, 2, none⟩) (fun k hk e => by have e : k = nb := e; omega) (.slice A1 (rangeI q.length (j + 1)).length c1)
                have a4 := (blk_set HH3.out 2 (.slice A1 (rangeI q.length (j + 1)).length c1)).trans rfl
                refine ⟨_, blk_kept HON3.out a4 (by decide) HG5.out, R_apart a1 HON3.out (by decide) HG5.out, R_apart a3 HON3.out (by decide) HG5.out, S_apart a2 HON3.out (by decide) HG5.out, ⟨_, HO5.out, HQ5.out⟩, HB5.out⟩
              go_roundg gk
              case measure => omega
              case rel => exact ⟨j + 1, by omega, by first | rfl | (simp; done), HI5⟩
      · have b1 : decide (((out.length : Nat) : Int) < ((q.length : Nat) : Int)) = false := decide_eq_false (by omega)
        have hf := HF.out
        unfold bfs at hf
        rw [List.getElem?_eq_none (by omega)] at hf
        injection hf with hf
        subst hf
        have HRo := Aside0.mk hRo
        have HB := Aside0.mk hB
        clear hRo hB hown hel HI
        go_wp2
        go_ret
        exact ⟨_, rfl, HRo.out, HB.out⟩
end Go.Proofs.Ytjabcdfbncglnaa
namespace Go.Proofs.Ytjabcdfbncglnaa
open Go.RowKit Go.Proofs.YtjabcdfbncglnaaW.PrintWords Go.Proofs.YtjabcdfbncglnaaW.PrintLast Go.Proofs.YtjabcdfbncglnaaW.PrintMore
open PTreeRanks (S59 k59 z59 S43 k43 z43)
set_option linter.unusedVariables false
set_option linter.unusedSimpArgs false

/-- How many nodes a tree has. -/
def nodesN : (d : Nat) → T d → Nat
  | 0, _ => 1
  | d + 1, t => 1 + (t.2.map (nodesN d)).sum
def nodesA (t : AT) : Nat := nodesN t.1 t.2
theorem nodesA_kids (t : AT) : nodesA t = 1 + ((kidsA t).map nodesA).sum := by
  obtain ⟨d, t⟩ := t
  cases d with
  | zero => rfl
  | succ d =>
    show 1 + (t.2.map (nodesN d)).sum = 1 + ((t.2.map fun c => (⟨d, c⟩ : AT)).map nodesA).sum
    rw [List.map_map]
    rfl

theorem bfs_ok : ∀ (g : Nat) (q : List AT) (i : Nat) (out : List S43), i ≤ q.length → ((q.drop i).map nodesA).sum < g → ∃ r, bfs g q i out = some r ∧ r.length = out.length + ((q.drop i).map nodesA).sum
  | 0, q, i, out, _, h => by omega
  | g + 1, q, i, out, hi, h => by
    unfold bfs
    rcases Nat.lt_or_ge i q.length with hlt | hge
    · rw [List.getElem?_eq_getElem hlt]
      have e : ((q.drop i).map nodesA).sum = 1 + (((q ++ kidsA q[i]).drop (i + 1)).map nodesA).sum := by
        rw [List.drop_eq_getElem_cons hlt, List.map_cons, List.sum_cons, nodesA_kids, List.drop_append_of_le_length (by omega), List.map_append, List.sum_append]
        omega
      obtain ⟨r, h1, h2⟩ := bfs_ok g (q ++ kidsA q[i]) (i + 1) (out ++ [nodeOf q[i] q.length]) (by rw [List.length_append]; omega) (by omega)
      refine ⟨r, h1, ?_⟩
      rw [h2, e, List.length_append]
      simp
      omega
    · rw [List.getElem?_eq_none hge]
      refine ⟨out, rfl, ?_⟩
      rw [List.drop_eq_nil_of_le hge]
      rfl

theorem last_get {α : Type} {out : List α} {i : Nat} (x : α) (h : out.length = i) : (out ++ [x])[i]? = some x := by
  subst h
  rw [List.getElem?_append_right (Nat.le_refl _), Nat.sub_self]
  rfl
/-- What the walk through the queue leaves: a longer queue, each node of it told. -/
theorem bfs_spec : ∀ {g : Nat} {q : List AT} {i : Nat} {out r : List S43}, bfs g q i out = some r → out.length = i → i ≤ q.length →
    ∃ Q : List AT, r.length = Q.length ∧ (∀ (j : Nat) (t : AT), q[j]? = some t → Q[j]? = some t) ∧ (∀ (j : Nat) (x : S43), out[j]? = some x → r[j]? = some x) ∧
      ∀ (j : Nat) (t : AT), i ≤ j → Q[j]? = some t → ∃ n, 0 < n ∧ r[j]? = some (nodeOf t n) ∧ ∀ m c, (kidsA t)[m]? = some c → Q[n + m]? = some c
  | 0, q, i, out, r, h, _, _ => by cases h
  | g + 1, q, i, out, r, h, h1, h2 => by
    unfold bfs at h
    rcases Nat.lt_or_ge i q.length with hlt | hge
    · rw [List.getElem?_eq_getElem hlt] at h
      obtain ⟨Q, e1, e2, e3, e4⟩ := bfs_spec h (by rw [List.length_append, h1]; rfl) (by rw [List.length_append]; omega)
      have eq1 : ∀ j t, q[j]? = some t → Q[j]? = some t := fun j t hj => e2 j t (by rw [List.getElem?_append_left (List.getElem?_eq_some_iff.1 hj).1]; exact hj)
      refine ⟨Q, e1, eq1, fun j x hj => e3 j x (by rw [List.getElem?_append_left (List.getElem?_eq_some_iff.1 hj).1]; exact hj), ?_⟩
      intro j t hj hQ
      rcases Nat.lt_or_ge i j with h3 | h3
      · exact e4 j t h3 hQ
      · obtain rfl : j = i := by omega
        have h4 := eq1 j q[j] (List.getElem?_eq_getElem hlt)
        rw [h4] at hQ
        injection hQ with hQ
        subst hQ
        refine ⟨q.length, by omega, e3 j _ (last_get _ h1), ?_⟩
        intro m c hm
        exact e2 _ c (by rw [List.getElem?_append_right (by omega), Nat.add_sub_cancel_left]; exact hm)
    · rw [List.getElem?_eq_none hge] at h
      injection h with h
      subst h
      obtain rfl : i = q.length := by omega
      refine ⟨q, by omega, fun j t h => h, fun j x h => h, ?_⟩
      intro j t hj hQ
      have := (List.getElem?_eq_some_iff.1 hQ).1
      omega

/-- A tree lies at a place of the list of nodes. -/
def Laid (r : List S43) : (d : Nat) → T d → Nat → Prop
  | 0, l, i => r[i]? = some ⟨true, List.map S59.f0 l, []⟩
  | d + 1, t, i => ∃ n, 0 < n ∧ r[i]? = some ⟨false, t.1, rangeI n t.2.length⟩ ∧ ∀ (m : Nat) c, t.2[m]? = some c → Laid r d c (n + m)

theorem laid_of_spec {Q : List AT} {r : List S43} (h : ∀ j t, 0 ≤ j → Q[j]? = some t → ∃ n, 0 < n ∧ r[j]? = some (nodeOf t n) ∧ ∀ m c, (kidsA t)[m]? = some c → Q[n + m]? = some c) : ∀ (d : Nat) (t : T d) (j : Nat), Q[j]? = some ⟨d, t⟩ → Laid r d t j
  | 0, l, j, hj => by
    obtain ⟨n, _, h1, _⟩ := h j _ (Nat.zero_le _) hj
    exact h1
  | d + 1, t, j, hj => by
    obtain ⟨n, h0, h1, h2⟩ := h j _ (Nat.zero_le _) hj
    refine ⟨n, h0, h1, fun m c hm => laid_of_spec h d c (n + m) (h2 m ⟨d, c⟩ ?_)⟩
    show (t.2.map fun c => (⟨d, c⟩ : AT))[m]? = _
    rw [List.getElem?_map, hm]
    rfl
theorem bfs_laid {g : Nat} {t : AT} {r : List S43} (h : bfs g [t] 0 [] = some r) : Laid r t.1 t.2 0 := by
  obtain ⟨Q, h1, h2, h3, h4⟩ := bfs_spec h rfl (Nat.zero_le _)
  exact laid_of_spec h4 t.1 t.2 0 (h2 0 t rfl)

theorem rd43 (r : List S43) (i : Nat) (h : i < r.length) : PTreeRanks.rd_T43 r (i : Int) = r[i] := by
  unfold PTreeRanks.rd_T43
  rw [Int.toNat_natCast, List.getD_eq_getElem?_getD, List.getElem?_eq_getElem h]
  rfl

open PTreeRanks in
/-- 'ordered' along the kids of one node. -/
theorem ordered_kids {r : List S43} {i n N : Nat} (hi : i < r.length) (hk : r[i].f2 = rangeI n N) (hn : i < n) (hN : n + N ≤ r.length) (hr : r.length ≤ 1099511627776) (k0 : Nat) (hk0 : keystoneref05_ordered.l0 k0 r ((n + N : Nat) : Int) ((i + 1 : Nat) : Int) = some true) :
    ∀ (m j : Nat), j + m = N → ∃ k, keystoneref05_ordered.l1 k r ((n + j : Nat) : Int) (i : Int) (j : Int) = some true
  | 0, j, hm => by
    obtain rfl : j = N := by omega
    refine ⟨k0 + 1, ?_⟩
    unfold keystoneref05_ordered.l1
    rw [if_pos (by omega), if_pos (by omega), rd43 r i hi, hk]
    have e : (rangeI n j).length = j := by unfold rangeI; simp
    rw [if_neg (by rw [e]; omega), wrap_small _ (by omega) (by omega)]
    exact hk0
  | m + 1, j, hm => by
    obtain ⟨k, h⟩ := ordered_kids hi hk hn hN hr k0 hk0 m (j + 1) (by omega)
    refine ⟨k + 1, ?_⟩
    unfold keystoneref05_ordered.l1
    rw [if_pos (by omega), if_pos (by omega), rd43 r i hi, hk]
    have e : (rangeI n N).length = N := by unfold rangeI; simp
    have e2 : rd (rangeI n N) (j : Int) = ((n + j : Nat) : Int) := by
      unfold rd rangeI
      rw [Int.toNat_natCast, List.getD_eq_getElem?_getD, List.getElem?_map, List.getElem?_range (by omega)]
      rfl
    rw [if_pos (by rw [e]; omega), if_pos (by omega), if_pos e2, if_neg (by omega), if_neg (by omega), wrap_small _ (by omega) (by omega), wrap_small _ (by omega) (by omega)]
    exact h

open PTreeRanks in
theorem ordered_bfs : ∀ {g : Nat} {q : List AT} {i : Nat} {out r : List S43}, bfs g q i out = some r → out.length = i → i ≤ q.length → r.length ≤ 1099511627776 → ∃ k, keystoneref05_ordered.l0 k r ((q.length : Nat) : Int) (i : Int) = some true
  | 0, q, i, out, r, h, _, _, _ => by cases h
  | g + 1, q, i, out, r, h, h1, h2, hr => by
    have hq := bfs_length h h1 h2
    obtain ⟨Q, e1, e2, e3, e4⟩ := bfs_spec h h1 h2
    unfold bfs at h
    rcases Nat.lt_or_ge i q.length with hlt | hge
    · rw [List.getElem?_eq_getElem hlt] at h
      obtain ⟨k0, hk0⟩ := ordered_bfs h (by rw [List.length_append, h1]; rfl) (by rw [List.length_append]; omega) hr
      have hq2 := bfs_length h (by rw [List.length_append, h1]; rfl) (by rw [List.length_append]; omega)
      rw [List.length_append] at hk0 hq2
      obtain ⟨Q', f1, f2, f3, f4⟩ := bfs_spec h (by rw [List.length_append, h1]; rfl) (by rw [List.length_append]; omega)
      have hri : r[i]? = some (nodeOf q[i] q.length) := f3 i _ (last_get _ h1)
      obtain ⟨hlr, hre⟩ := List.getElem?_eq_some_iff.1 hri
      have hf2 : r[i].f2 = rangeI q.length (kidsA q[i]).length := by
        rw [hre]
        rcases q[i] with ⟨d, t⟩
        cases d with
        | zero => rfl
        | succ d => show rangeI q.length t.2.length = _; unfold kidsA; rw [List.length_map]
      obtain ⟨k, hk⟩ := ordered_kids hlr hf2 hlt hq2 hr k0 hk0 (kidsA q[i]).length 0 (by omega)
      refine ⟨k + 1, ?_⟩
      unfold keystoneref05_ordered.l0
      rw [if_pos (by omega)]
      exact hk
    · rw [List.getElem?_eq_none hge] at h
      injection h with h
      subst h
      refine ⟨1, ?_⟩
      unfold keystoneref05_ordered.l0
      rw [if_neg (by omega)]
      obtain rfl : i = q.length := by omega
      have : ((q.length : Nat) : Int) = ((out.length : Nat) : Int) := by omega
      rw [this]
      simp
end Go.Proofs.Ytjabcdfbncglnaa
namespace Go.Proofs.Ytjabcdfbncglnaa
open Go.RowKit Go.Proofs.YtjabcdfbncglnaaW.PrintWords Go.Proofs.YtjabcdfbncglnaaW.PrintLast Go.Proofs.YtjabcdfbncglnaaW.PrintMore
open PTreeRanks (S59 k59 z59 S43 k43 z43)
set_option linter.unusedVariables false
set_option linter.unusedSimpArgs false

set_option maxHeartbeats 4000000 in
set_option maxRecDepth 100000 in
theorem holds_calls (lo hi : ByteArray) (b1 b2 : Bool) (k : ByteArray) (w : World):
    Calls Try.prog 55 #[.agg #[.string lo, .string hi, .bool b1, .bool b2], .string k] w fun e w' => e = .returned (.bool ((!b1 || !blt k lo) && (!b2 || blt k hi))) ∧ Below w.heap.size w w' := by
  have hu96 := Try.underlying96
  have hge := PTreeRanks.run_geq
  unfold blt
  cases b1 <;> cases b2 <;> cases h1 : Op.bytesLess k.toList lo.toList <;> cases h2 : Op.bytesLess k.toList hi.toList
  all_goals
    go_enter Try.func55, Try.ntmps55
    go_wp2
    go_ret
    exact ⟨rfl, below_mk (Below.refl _ _) _⟩

theorem half_calls (n : Nat) (h : n ≤ 1000) (w : World) : Calls Try.prog 56 #[.int .i64 (n : Nat)] w fun e w' => e = .returned (.int .i64 ((n + 1) / 2 : Nat)) ∧ Drawn0 w w' := by
  refine PTreeRanks.keystoneref05_half.calls _ _ w ?_
  unfold PTreeRanks.keystoneref05_half.f
  rw [wrap_small ((n : Int) + 1) (by omega) (by omega)]
  have e : Int.tdiv ((n : Int) + 1) 2 = (((n + 1) / 2 : Nat) : Int) := by
    rw [Int.tdiv_eq_ediv_of_nonneg (by omega)]
    omega
  rw [e, wrap_small _ (by omega) (by omega)]

set_option maxHeartbeats 4000000 in
set_option maxRecDepth 100000 in
theorem filled_leaf (F order nk ck ci : Nat) (Ak Ai : Option Addr) (root : Bool) (w : World) (h3 : 3 ≤ order) (h4 : order ≤ 64) (x1 : w.cell? ⟨F, 1, none⟩ = some (.int .i64 (order : Nat))) (hk : nk + 1 ≤ order) (hr : root = true ∨ order / 2 ≤ nk) :
    Calls Try.prog 54 #[.pointer (some ⟨F, 0, none⟩), .agg #[.bool true, .slice Ak nk ck, .slice Ai 0 ci], .bool root] w fun e w' => e = .returned (.bool true) ∧ Below w.heap.size w w' := by
  have hu43 := Try.underlying43
  have HH : Aside0 (∀ W, Calls Try.prog 56 #[.int .i64 ((order : Nat) - 1 : Int)] W fun e w' => e = .returned (.int .i64 (order / 2 : Nat)) ∧ Drawn0 W w') := ⟨fun W => by
    have := half_calls (order - 1) (by omega) W
    rw [show order - 1 + 1 = order by omega, show ((order - 1 : Nat) : Int) = (order : Int) - 1 by omega] at this
    exact this⟩
  have e1 : decide (((nk : Nat) : Int) ≤ ((order : Nat) : Int) - 1) = true := decide_eq_true (by omega)
  have ew : wrap64 (((order : Nat) : Int) - 1) = ((order : Nat) : Int) - 1 := wrap_small _ (by omega) (by omega)
  have x2 : (w.alloc (.cells #[.bool true, .slice Ak nk ck, .slice Ai 0 ci] 43)).cell? ⟨F, 1, none⟩ = some (.int .i64 (order : Nat)) := pw_cell_below (below_mk (Below.refl _ _) _) x1
  have hB := Aside0.mk (below_mk (Below.refl w.heap.size w) (.cells #[.bool true, .slice Ak nk ck, .slice Ai 0 ci] 43))
  cases root with
  | true =>
    go_enter Try.func54, Try.ntmps54
    go_wp2
    go_quiet (fail)
    go_wp2
    go_ret
    exact ⟨by simp <;> omega, pw_below_drewN hB.out _⟩
  | false =>
    have hk2 : order / 2 ≤ nk := by
      rcases hr with h | h
      · cases h
      · exact h
    have e2 : decide (((order / 2 : Nat) : Int) ≤ ((nk : Nat) : Int)) = true := decide_eq_true (by omega)
    go_enter Try.func54, Try.ntmps54
    go_wp2
    go_quiet ((go_at_call 56; exact quiet_D (HH.out _)))
    go_wp2
    go_ret
    exact ⟨by simp <;> omega, pw_below_drewN hB.out _⟩

set_option maxHeartbeats 4000000 in
set_option maxRecDepth 100000 in
theorem filled_inner (F order nk ck ci : Nat) (Ak Ai : Option Addr) (root : Bool) (w : World) (h3 : 3 ≤ order) (h4 : order ≤ 64) (x1 : w.cell? ⟨F, 1, none⟩ = some (.int .i64 (order : Nat))) (hk : nk + 1 ≤ order) (hr : (if root then 2 else (order + 1) / 2) ≤ nk + 1) :
    Calls Try.prog 54 #[.pointer (some ⟨F, 0, none⟩), .agg #[.bool false, .slice Ak nk ck, .slice Ai (nk + 1) ci], .bool root] w fun e w' => e = .returned (.bool true) ∧ Below w.heap.size w w' := by
  have hu43 := Try.underlying43
  have x2 : (w.alloc (.cells #[.bool false, .slice Ak nk ck, .slice Ai (nk + 1) ci] 43)).cell? ⟨F, 1, none⟩ = some (.int .i64 (order : Nat)) := pw_cell_below (below_mk (Below.refl _ _) _) x1
  have hB := Aside0.mk (below_mk (Below.refl w.heap.size w) (.cells #[.bool false, .slice Ak nk ck, .slice Ai (nk + 1) ci] 43))
  have HH := Aside0.mk (half_calls order (by omega) (w.alloc (.cells #[.bool false, .slice Ak nk ck, .slice Ai (nk + 1) ci] 43)))
  have e1 : decide ((((nk + 1 : Nat)) : Int) ≤ ((order : Nat) : Int)) = true := decide_eq_true (by omega)
  have e1' : decide (((nk : Nat) : Int) + 1 ≤ ((order : Nat) : Int)) = true := decide_eq_true (by omega)
  have ew : wrap64 (((nk : Nat) : Int) + 1) = ((nk : Nat) : Int) + 1 := wrap_small _ (by omega) (by omega)
  cases root with
  | true =>
    have hk2 : 2 ≤ nk + 1 := hr
    have e2 : decide ((2 : Int) ≤ ((nk : Nat) : Int) + 1) = true := decide_eq_true (by omega)
    go_enter Try.func54, Try.ntmps54
    go_wp2_with fail
    refine HH.out.mono ?_
    rintro e w' ⟨rfl, ⟨n, rfl⟩⟩
    go_wp2
    go_quiet (fail)
    go_wp2
    go_ret
    exact ⟨by simp <;> omega, pw_below_drewN (pw_below_drewN hB.out _) _⟩
  | false =>
    have hk2 : (order + 1) / 2 ≤ nk + 1 := hr
    have e2 : decide ((((order + 1) / 2 : Nat) : Int) ≤ ((nk : Nat) : Int) + 1) = true := decide_eq_true (by omega)
    go_enter Try.func54, Try.ntmps54
    go_wp2_with fail
    refine HH.out.mono ?_
    rintro e w' ⟨rfl, ⟨n, rfl⟩⟩
    go_wp2
    go_quiet (fail)
    go_wp2
    go_ret
    exact ⟨by simp <;> omega, pw_below_drewN (pw_below_drewN hB.out _) _⟩
end Go.Proofs.Ytjabcdfbncglnaa
namespace Go.Proofs.Ytjabcdfbncglnaa
open Go.RowKit Go.Proofs.YtjabcdfbncglnaaW.PrintWords Go.Proofs.YtjabcdfbncglnaaW.PrintLast Go.Proofs.YtjabcdfbncglnaaW.PrintMore
open PTreeRanks (S59 k59 z59 S43 k43 z43)
set_option linter.unusedVariables false
set_option linter.unusedSimpArgs false

def bndV (lo hi : Option ByteArray) : Value := .agg #[.string (lo.getD ⟨#[]⟩), .string (hi.getD ⟨#[]⟩), .bool lo.isSome, .bool hi.isSome]
def bndC (lo hi : Option ByteArray) : Array Value := #[.string (lo.getD ⟨#[]⟩), .string (hi.getD ⟨#[]⟩), .bool lo.isSome, .bool hi.isSome]
theorem inR_holds {lo hi : Option ByteArray} {k : ByteArray} (h : inR lo hi k) : ((!lo.isSome || !blt k (lo.getD ⟨#[]⟩)) && (!hi.isSome || blt k (hi.getD ⟨#[]⟩))) = true := by
  have h1 : (!lo.isSome || !blt k (lo.getD ⟨#[]⟩)) = true := by
    cases lo with
    | none => rfl
    | some l => have := h.1 l rfl; show (!true || !blt k l) = true; rw [this]; rfl
  have h2 : (!hi.isSome || blt k (hi.getD ⟨#[]⟩)) = true := by
    cases hi with
    | none => rfl
    | some l => have := h.2 l rfl; show (!true || blt k l) = true; rw [this]; rfl
  rw [h1, h2]
  rfl

theorem WK_get {α : Type} {P : Option ByteArray → Option ByteArray → α → Prop} : ∀ {lo hi : Option ByteArray} {ks : List ByteArray} {cs : List α}, WK P lo hi ks cs → ∀ (i : Nat) (h : i < cs.length), P (if i = 0 then lo else ks[i - 1]?) (if i < ks.length then ks[i]? else hi) cs[i]
  | lo, hi, [], [c], h, 0, _ => h
  | _, _, [], [c], _, i + 1, h => by simp at h
  | _, _, [], [], h, _, _ => h.elim
  | _, _, [], _ :: _ :: _, h, _, _ => h.elim
  | _, _, _ :: _, [], h, _, _ => h.elim
  | lo, hi, k :: ks, c :: cs, h, 0, _ => h.1
  | lo, hi, k :: ks, c :: cs, h, i + 1, hi' => by
    have := WK_get h.2 i (by simpa using hi')
    rw [if_neg (Nat.succ_ne_zero i)]
    have e1 : (if i = 0 then some k else ks[i - 1]?) = (k :: ks)[i + 1 - 1]? := by
      cases i with
      | zero => rfl
      | succ i => rfl
    have e2 : (if i < ks.length then ks[i]? else hi) = (if i + 1 < (k :: ks).length then (k :: ks)[i + 1]? else hi) := by
      rw [List.length_cons]
      by_cases h9 : i < ks.length
      · rw [if_pos h9, if_pos (by omega)]; rfl
      · rw [if_neg h9, if_neg (by omega)]
    rw [e1, e2] at this
    exact this

/-- Only block F, rows of strings and new blocks turn. -/
def Keep9 (F : Nat) (W W' : World) : Prop := W.heap.size ≤ W'.heap.size ∧ ∀ (g t : Nat) (c : Array Value), g ≠ F → t ≠ 9 → W.heap[g]? = some (.cells c t (0, 0)) → W'.heap[g]? = some (.cells c t (0, 0))
theorem Keep9.refl (F : Nat) (W : World) : Keep9 F W W := ⟨Nat.le_refl _, fun _ _ _ _ _ h => h⟩
theorem Keep9.trans {F : Nat} {A B C : World} (h : Keep9 F A B) (k : Keep9 F B C) : Keep9 F A C := ⟨Nat.le_trans h.1 k.1, fun g t c h1 h2 h3 => k.2 g t c h1 h2 (h.2 g t c h1 h2 h3)⟩
theorem Keep9.below {F : Nat} {A B C : World} (h : Keep9 F A B) (k : Below B.heap.size B C) : Keep9 F A C := h.trans ⟨k.size, fun g t c _ _ h => (k.block g (blk_lt h)).trans h⟩
theorem Keep9.row {F : Nat} {A B C : World} (h : Keep9 F A B) {v : Value} {base n : Nat} {xs : List Value} (ho : B.ownsRow base 9 1 v n xs) (k : B.grownBy C v.ownBlock) : Keep9 F A C :=
  h.trans ⟨k.size, fun g t c _ h2 h => blk_kept ho h (fun e => h2 e.symm) k⟩
theorem Keep9.cell {F : Nat} {A B C : World} (h : Keep9 F A B) (k : B.grownBy C (some F)) : Keep9 F A C :=
  h.trans ⟨k.size, fun g t c h1 _ h => (k.block g (blk_lt h) (fun e => by injection e with e; exact h1 e)).trans h⟩

/-- The cells of the document's form. -/
def FormC (An : Option Addr) (n cn order dep : Nat) (kv : Value) : Array Value := #[.slice An n cn, .int .i64 (order : Nat), .int .i64 (dep : Nat), kv, .int .i64 0, .bool true]

/-- What stands of the form in block F. -/
def FormI (w0 : World) (F : Nat) (An : Option Addr) (n cn order : Nat) (dep : Nat) (kv : Value) (acc : List ByteArray) (W : World) : Prop :=
  W.heap[F]? = some (.cells (FormC An n cn order dep kv) 93 (0, 0)) ∧ Kd.string.R 9 W w0.heap.size (fun k => k ≠ F) kv acc ∧ Below w0.heap.size w0 W

theorem FormI.below {w0 W W' : World} {F : Nat} {An : Option Addr} {n cn order dep : Nat} {kv : Value} {acc : List ByteArray} (h : FormI w0 F An n cn order dep kv acc W) (hb : Below W.heap.size W W') : FormI w0 F An n cn order dep kv acc W' :=
  ⟨(hb.block _ (blk_lt h.1)).trans h.1, Kd.R_below h.2.1 hb, h.2.2.trans (hb.mono h.2.2.size)⟩

/-- node goes through a tree of depth d that lies at a place. -/
def NodeOk (w0 : World) (F : Nat) (An : Option Addr) (cn order : Nat) (r : List S43) (d : Nat) : Prop :=
  ∀ (t : T d) (i depth : Nat) (lo hi : Option ByteArray) (dep : Nat) (kv : Value) (acc : List ByteArray) (W : World), Laid r d t i → WF order d (if i = 0 then (if d = 0 then 0 else 2) else minOf order d) lo hi t →
    FormI w0 F An r.length cn order dep kv acc W → (dep = 0 ∨ dep = depth + d) → 0 < depth → depth + d ≤ 1099511627776 → acc.length + size d t ≤ 1099511627776 →
    Calls Try.prog 38 #[.pointer (some ⟨F, 0, none⟩), .int .i64 (i : Nat), .int .i64 (depth : Nat), bndV lo hi] W fun e W' =>
      e = .returned (.tuple #[]) ∧ Keep9 F W W' ∧ ∃ kv', FormI w0 F An r.length cn order (depth + d) kv' (acc ++ keysOf (toList d t)) W'
end Go.Proofs.Ytjabcdfbncglnaa
