/- WHAT IS PROVED: the simplest edge comes. -/
import Derived.Test.YtknpkfjaffhejaaGreatBg0
namespace Go.Proofs.YtknpkfjaffhejaaGreat
open Go.RowKit Go.Proofs.YtknpkfjaffhejaaGreatW.PrintWords Go.Proofs.YtknpkfjaffhejaaGreatW.PrintLast Go.Proofs.YtknpkfjaffhejaaGreatW.PrintMore
set_option linter.unusedVariables false
set_option linter.unusedSimpArgs false

/-- An edge's cells. -/
def EdgeAt (g o : Nat) (p : ByteArray) (n : Int) (q : ByteArray) (m : Int) (k : Int) (v : Bool) (w : World) : Prop :=
  w.cell? ⟨g, o, none⟩ = some (.string p) ∧ w.cell? ⟨g, o + 1, none⟩ = some (.int .i64 n) ∧ w.cell? ⟨g, o + 2, none⟩ = some (.string q) ∧ w.cell? ⟨g, o + 3, none⟩ = some (.int .i64 m) ∧ w.cell? ⟨g, o + 4, none⟩ = some (.int .i64 k) ∧ w.cell? ⟨g, o + 5, none⟩ = some (.bool v)

set_option maxRecDepth 100000 in
set_option maxHeartbeats 8000000 in
/-- The simplest edge. -/
theorem between_calls (w : World) : Calls Tryz.prog 18 #[.agg (siteC ⟨#[97]⟩ 0 5 ⟨#[116]⟩ true false false), .agg (siteC ⟨#[98]⟩ 1 7 ⟨#[116]⟩ false true false)] w fun e w' =>
    Below w.heap.size w w' ∧ ∃ (g c : Nat), e = .returned (.slice (some ⟨g, 0, none⟩) 1 c) ∧ EdgeAt g 0 ⟨#[97]⟩ 0 ⟨#[98]⟩ 1 3 true w' := by
  have hu46 := Tryz.underlying48
  have hu29 := Tryz.underlying37
  have hu31 := Tryz.underlying39
  have hb1 := below_mk (Below.refl w.heap.size w) (.cells (siteC ⟨#[97]⟩ 0 5 ⟨#[116]⟩ true false false) 48)
  have hb2 := below_mk hb1 (.cells (siteC ⟨#[98]⟩ 1 7 ⟨#[116]⟩ false true false) 48)
  have e1 : (w.alloc (.cells (siteC ⟨#[97]⟩ 0 5 ⟨#[116]⟩ true false false) 48)).heap.size = w.heap.size + 1 := by simp
  have hn1 : ((w.alloc (.cells (siteC ⟨#[97]⟩ 0 5 ⟨#[116]⟩ true false false) 48)).alloc (.cells (siteC ⟨#[98]⟩ 1 7 ⟨#[116]⟩ false true false) 48)).heap[w.heap.size]? = some (.cells (siteC ⟨#[97]⟩ 0 5 ⟨#[116]⟩ true false false) 48 (0, 0)) := (Below.heap_alloc _ _ _ (by rw [e1]; omega)).trans (heap_alloc_new w _)
  have hn2 : ((w.alloc (.cells (siteC ⟨#[97]⟩ 0 5 ⟨#[116]⟩ true false false) 48)).alloc (.cells (siteC ⟨#[98]⟩ 1 7 ⟨#[116]⟩ false true false) 48)).heap[w.heap.size + 1]? = some (.cells (siteC ⟨#[98]⟩ 1 7 ⟨#[116]⟩ false true false) 48 (0, 0)) := by rw [← e1]; exact heap_alloc_new _ _
  have HX := Aside0.mk (And.intro hb2 (And.intro hn1 hn2))
  clear hb1 hb2 e1 hn1 hn2
  have HM := Aside0.mk (may_nil ⟨#[97]⟩ ⟨#[98]⟩ ⟨#[116]⟩ 0 1 5 7 true false false false true false (by decide) (by decide) ((w.alloc (.cells (siteC ⟨#[97]⟩ 0 5 ⟨#[116]⟩ true false false) 48)).alloc (.cells (siteC ⟨#[98]⟩ 1 7 ⟨#[116]⟩ false true false) 48)))
  go_enter Tryz.func18, Tryz.ntmps18
  go_wp2_with fail
  refine HM.out.mono ?_
  rintro e w2 ⟨rfl, hb2⟩
  obtain ⟨hbx, hn1, hn2⟩ := HX.out
  have hn1' := (hb2.block _ (blk_lt hn1)).trans hn1
  have hn2' := (hb2.block _ (blk_lt hn2)).trans hn2
  have HB2 := Aside0.mk (hbx.trans (hb2.mono hbx.size))
  clear hbx hn1 hn2 hb2 HX HM
  have HSK : Aside0 (∀ W, Below w2.heap.size w2 W → ((W.cell? ⟨w.heap.size, 0, none⟩ = some (.string ⟨#[97]⟩) ∧ W.cell? ⟨w.heap.size, 1, none⟩ = some (.int .i64 0) ∧ W.cell? ⟨w.heap.size, 2, none⟩ = some (.int .i64 5) ∧ W.cell? ⟨w.heap.size, 3, none⟩ = some (.string ⟨#[116]⟩) ∧ W.cell? ⟨w.heap.size, 4, none⟩ = some (.slice none 0 0) ∧ W.cell? ⟨w.heap.size, 5, none⟩ = some (.slice none 0 0) ∧ W.cell? ⟨w.heap.size, 6, none⟩ = some (.bool true) ∧ W.cell? ⟨w.heap.size, 7, none⟩ = some (.bool false) ∧ W.cell? ⟨w.heap.size, 8, none⟩ = some (.bool false)) ∧
      (W.cell? ⟨w.heap.size + 1, 0, none⟩ = some (.string ⟨#[98]⟩) ∧ W.cell? ⟨w.heap.size + 1, 1, none⟩ = some (.int .i64 1) ∧ W.cell? ⟨w.heap.size + 1, 2, none⟩ = some (.int .i64 7) ∧ W.cell? ⟨w.heap.size + 1, 3, none⟩ = some (.string ⟨#[116]⟩) ∧ W.cell? ⟨w.heap.size + 1, 4, none⟩ = some (.slice none 0 0) ∧ W.cell? ⟨w.heap.size + 1, 5, none⟩ = some (.slice none 0 0) ∧ W.cell? ⟨w.heap.size + 1, 6, none⟩ = some (.bool false) ∧ W.cell? ⟨w.heap.size + 1, 7, none⟩ = some (.bool true) ∧ W.cell? ⟨w.heap.size + 1, 8, none⟩ = some (.bool false))) ∧ Below w2.heap.size w2 W) := ⟨fun W hb => by
    have k1 := (hb.block _ (blk_lt hn1')).trans hn1'
    have k2 := (hb.block _ (blk_lt hn2')).trans hn2'
    exact ⟨⟨⟨(blk_cell k1 0).trans rfl, (blk_cell k1 1).trans rfl, (blk_cell k1 2).trans rfl, (blk_cell k1 3).trans rfl, (blk_cell k1 4).trans rfl, (blk_cell k1 5).trans rfl, (blk_cell k1 6).trans rfl, (blk_cell k1 7).trans rfl, (blk_cell k1 8).trans rfl⟩,
      ⟨(blk_cell k2 0).trans rfl, (blk_cell k2 1).trans rfl, (blk_cell k2 2).trans rfl, (blk_cell k2 3).trans rfl, (blk_cell k2 4).trans rfl, (blk_cell k2 5).trans rfl, (blk_cell k2 6).trans rfl, (blk_cell k2 7).trans rfl, (blk_cell k2 8).trans rfl⟩⟩, hb⟩⟩
  obtain ⟨⟨⟨x0, x1, x2, x3, x4, x5, x6, x7, x8⟩, ⟨y0, y1, y2, y3, y4, y5, y6, y7, y8⟩⟩, _⟩ := HSK.out w2 (Below.refl _ _)
  clear hn1' hn2'
  go_wp2_with fail
  go_region_held3 (fun W => ((W.cell? ⟨w.heap.size, 0, none⟩ = some (.string ⟨#[97]⟩) ∧ W.cell? ⟨w.heap.size, 1, none⟩ = some (.int .i64 0) ∧ W.cell? ⟨w.heap.size, 2, none⟩ = some (.int .i64 5) ∧ W.cell? ⟨w.heap.size, 3, none⟩ = some (.string ⟨#[116]⟩) ∧ W.cell? ⟨w.heap.size, 4, none⟩ = some (.slice none 0 0) ∧ W.cell? ⟨w.heap.size, 5, none⟩ = some (.slice none 0 0) ∧ W.cell? ⟨w.heap.size, 6, none⟩ = some (.bool true) ∧ W.cell? ⟨w.heap.size, 7, none⟩ = some (.bool false) ∧ W.cell? ⟨w.heap.size, 8, none⟩ = some (.bool false)) ∧
      (W.cell? ⟨w.heap.size + 1, 0, none⟩ = some (.string ⟨#[98]⟩) ∧ W.cell? ⟨w.heap.size + 1, 1, none⟩ = some (.int .i64 1) ∧ W.cell? ⟨w.heap.size + 1, 2, none⟩ = some (.int .i64 7) ∧ W.cell? ⟨w.heap.size + 1, 3, none⟩ = some (.string ⟨#[116]⟩) ∧ W.cell? ⟨w.heap.size + 1, 4, none⟩ = some (.slice none 0 0) ∧ W.cell? ⟨w.heap.size + 1, 5, none⟩ = some (.slice none 0 0) ∧ W.cell? ⟨w.heap.size + 1, 6, none⟩ = some (.bool false) ∧ W.cell? ⟨w.heap.size + 1, 7, none⟩ = some (.bool true) ∧ W.cell? ⟨w.heap.size + 1, 8, none⟩ = some (.bool false))) ∧ Below w2.heap.size w2 W) (exact HSK.out _ (by repeat (first | assumption | exact Below.refl _ _ | refine below_drew ?_ | refine below_mk ?_ _))) (first | (go_at_call 32; refine (id_calls _ _ _ _ _ _ _ _).mono ?_; rintro e w3 ⟨rfl, hb3⟩; have hq3 := below_go hb3 (And.right (by assumption))))
  have hs3 : ∀ o, (w3.alloc o).heap.size = w3.heap.size + 1 := fun o => by simp
  have HF : ∀ (E Z : Array Value), E.size = 6 → ∀ j, j < 6 → ((w3.alloc (.cells E 39)).alloc (.cells (E ++ Z) 39)).drew.cell? ⟨w3.heap.size + 1, j, none⟩ = E[j]? := fun E Z hE j hj => by
    have h1 := heap_alloc_new (w3.alloc (.cells E 39)) (.cells (E ++ Z) 39)
    rw [hs3] at h1
    have h2 := blk_cell h1 j
    rw [Array.getElem?_append_left (by omega)] at h2
    exact h2
  have HBX : ∀ o1 o2, Below w.heap.size w ((w3.alloc o1).alloc o2).drew := fun o1 o2 => HB2.out.trans ((below_drew (below_mk (below_mk hq3 o1) o2)).mono HB2.out.size)
  have HF := Aside0.mk HF
  have HBX := Aside0.mk HBX
  clear hs3 hq3
  go_wp2_with fail
  go_ret
  refine ⟨HBX.out _ _, _, _, rfl, ?_⟩
  refine ⟨(HF.out _ _ rfl 0 (by omega)).trans rfl, (HF.out _ _ rfl 1 (by omega)).trans rfl, (HF.out _ _ rfl 2 (by omega)).trans rfl, (HF.out _ _ rfl 3 (by omega)).trans rfl, (HF.out _ _ rfl 4 (by omega)).trans rfl, (HF.out _ _ rfl 5 (by omega)).trans rfl⟩

set_option maxRecDepth 100000 in
set_option maxHeartbeats 8000000 in
/-- The simplest edge comes. -/
theorem begun_calls (w : World) : Calls Tryz.prog 5 #[] w fun e w' => e = .returned (.bool true) ∧ Below w.heap.size w w' := by
  have hu31 := Tryz.underlying39
  have hu29 := Tryz.underlying37
  go_enter Tryz.func5, Tryz.ntmps5
  go_wp2_with fail
  refine (reads_calls _).mono ?_
  rintro e w1 ⟨rfl, hb1⟩
  have HB1 := Aside0.mk hb1
  clear hb1
  go_wp2_with fail
  refine (writes_calls _).mono ?_
  rintro e w2 ⟨rfl, hb2⟩
  have HB2 := Aside0.mk (HB1.out.trans (hb2.mono HB1.out.size))
  clear hb2 HB1
  go_wp2_with fail
  refine (between_calls _).mono ?_
  rintro e w3 ⟨hb3, g, c, rfl, x0, x1, x2, x3, x4, x5⟩
  have HB3 := Aside0.mk (HB2.out.trans (hb3.mono HB2.out.size))
  clear hb3 HB2
  go_wp2_with fail
  go_ret
  exact ⟨rfl, HB3.out⟩
end Go.Proofs.YtknpkfjaffhejaaGreat
