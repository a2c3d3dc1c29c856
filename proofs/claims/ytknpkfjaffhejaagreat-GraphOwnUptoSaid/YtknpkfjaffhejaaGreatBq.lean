/- WHAT IS PROVED: two sites that name no keys may touch one row. | WHAT IS PROVED: the simplest edge comes. -/
import Derived.Test.YtknpkfjaffhejaaGreatUt
namespace Go.Proofs.YtknpkfjaffhejaaGreat
open Go.RowKit Go.Proofs.YtknpkfjaffhejaaGreatW.PrintWords Go.Proofs.YtknpkfjaffhejaaGreatW.PrintLast Go.Proofs.YtknpkfjaffhejaaGreatW.PrintMore
set_option linter.unusedVariables false
set_option linter.unusedSimpArgs false

theorem known_nil (w : World) : Calls Tryz.prog 63 #[.slice none 0 0] w fun e w' => e = .returned (.slice none 0 0) ∧ w = w' := by
  go_enter Tryz.func63, Tryz.ntmps63
  go_wp2
  go_loopw [3, 8] (fun v3 v W => v3 = .slice none 0 0 ∧ v = .int .i64 0 ∧ W = w) (fun _ v W => 0)
  case atStart => exact ⟨rfl, rfl, rfl⟩
  case round =>
    obtain ⟨rfl, rfl, rfl⟩ := hrel
    go_wp2
    go_ret
    exact ⟨rfl, rfl⟩

theorem quiet_same {P : Program} {f : FuncId} {args : Array Value} {w : World} {n : Nat} {v : Value} (h : Calls P f args (w.drewN n) fun e w' => e = .returned v ∧ w.drewN n = w') : Calls P f args (w.drewN n) fun e w'' => e = .returned v ∧ ∃ m, w'' = w.drewN m :=
  h.mono fun _ _ ⟨he, hw⟩ => ⟨he, n, hw.symm⟩

/-- A site without keys: its cells. -/
abbrev siteC (p : ByteArray) (n op : Int) (t : ByteArray) (r wr c : Bool) : Array Value := #[.string p, .int .i64 n, .int .i64 op, .string t, .slice none 0 0, .slice none 0 0, .bool r, .bool wr, .bool c]

set_option maxHeartbeats 4000000 in
theorem ends_nil (p : ByteArray) (n op : Int) (t : ByteArray) (r wr c : Bool) (hop : op ≠ 11) (w : World) : Calls Tryz.prog 48 #[.agg (siteC p n op t r wr c)] w fun e w' => e = .returned (.tuple #[.slice none 0 0, .slice none 0 0]) ∧ Below w.heap.size w w' := by
  have hu46 := Tryz.underlying48
  have b1 : decide (op = 11) = false := decide_eq_false hop
  have b2 : (op == 11) = false := by simpa using hop
  have b3 : (op = 11) = False := eq_false hop
  have hb := below_mk (Below.refl w.heap.size w) (.cells (siteC p n op t r wr c) 48)
  have hN := heap_alloc_new w (.cells (siteC p n op t r wr c) 48)
  have x2 : (w.alloc (.cells (siteC p n op t r wr c) 48)).cell? ⟨w.heap.size, 2, none⟩ = some (.int .i64 op) := (blk_cell hN 2).trans rfl
  have x4 : (w.alloc (.cells (siteC p n op t r wr c) 48)).cell? ⟨w.heap.size, 4, none⟩ = some (.slice none 0 0) := (blk_cell hN 4).trans rfl
  have HB := Aside0.mk hb
  clear hb hN
  go_enter Tryz.func48, Tryz.ntmps48
  go_wp2
  go_quiet ((go_at_call 63; exact quiet_same (known_nil _)))
  go_wp2
  go_ret2
  exact ⟨rfl, pw_below_drewN HB.out _⟩

theorem checkKey_nil (w : World) : Calls Tryz.prog 88 #[.slice none 0 0] w fun e w' => e = .returned (.int .i64 0) ∧ w = w' := by
  go_enter Tryz.func88, Tryz.ntmps88
  go_wp2
  go_loopw [2, 11] (fun v2 v W => v2 = .int .i64 0 ∧ v = .int .i64 0 ∧ W = w) (fun _ v W => 0)
  case atStart => exact ⟨rfl, rfl, rfl⟩
  case round =>
    obtain ⟨rfl, rfl, rfl⟩ := hrel
    go_wp2
    go_ret
    exact ⟨rfl, rfl⟩

theorem compare_nil (w : World) : Calls Tryz.prog 65 #[.slice none 0 0, .slice none 0 0] w fun e w' => e = .returned (.tuple #[.int .i64 0, .int .i64 0]) ∧ Below w.heap.size w w' := by
  have hb := below_mk (Below.refl w.heap.size w) (.cells #[.slice none 0 0, .slice none 0 0] 80)
  have hN := heap_alloc_new w (.cells #[.slice none 0 0, .slice none 0 0] 80)
  have HB := Aside0.mk hb
  have HN := Aside0.mk hN
  clear hb hN
  go_enter Tryz.func65, Tryz.ntmps65
  go_wp2
  go_loopw [15] (fun v W => ∃ i : Nat, v = .int .i64 (i : Nat) ∧ i ≤ 2 ∧ W = w.alloc (.cells #[.slice none 0 0, .slice none 0 0] 80)) (fun v W => 2 - (RowKit.intOf v).toNat)
  case atStart => exact ⟨0, rfl, by omega, rfl⟩
  case round =>
    obtain ⟨i, rfl, hi, rfl⟩ := hrel
    have x0 : (w.alloc (.cells #[.slice none 0 0, .slice none 0 0] 80)).cell? ⟨w.heap.size, 0, none⟩ = some (.slice none 0 0) := (blk_cell HN.out 0).trans rfl
    have x1 : (w.alloc (.cells #[.slice none 0 0, .slice none 0 0] 80)).cell? ⟨w.heap.size, 1, none⟩ = some (.slice none 0 0) := (blk_cell HN.out 1).trans rfl
    obtain rfl | rfl | rfl : i = 0 ∨ i = 1 ∨ i = 2 := by omega
    · go_wp2_with fail
      refine (checkKey_nil _).mono ?_
      rintro e w' ⟨rfl, rfl⟩
      go_wp2
      go_roundw
      case measure => show 2 - (0 + 1) < 2 - 0; omega
      case rel => exact ⟨1, by first | rfl | (simp; done), by omega, by first | rfl | trivial⟩
    · go_wp2_with fail
      refine (checkKey_nil _).mono ?_
      rintro e w' ⟨rfl, rfl⟩
      go_wp2
      go_roundw
      case measure => show 2 - (1 + 1) < 2 - 1; omega
      case rel => exact ⟨2, by first | rfl | (simp; done), by omega, by first | rfl | trivial⟩
    · go_wp2
      go_loopw [9] (fun v W => v = .int .i64 0 ∧ W = w.alloc (.cells #[.slice none 0 0, .slice none 0 0] 80)) (fun v W => 0)
      case atStart => exact ⟨rfl, rfl⟩
      case round =>
        obtain ⟨rfl, rfl⟩ := hrel
        go_wp2
        go_ret2
        exact ⟨rfl, HB.out⟩

theorem above_nil (w : World) : Calls Tryz.prog 49 #[.slice none 0 0, .slice none 0 0] w fun e w' => e = .returned (.bool false) ∧ Below w.heap.size w w' := by
  have HC : Aside0 (∀ w0 : World, Below w.heap.size w w0 → Calls Tryz.prog 65 #[.slice none 0 0, .slice none 0 0] w0.drew fun e w' => e = .returned (.tuple #[.int .i64 0, .int .i64 0]) ∧ Below w.heap.size w w') := ⟨fun w0 h => (compare_nil w0.drew).mono fun e w' ⟨he, hb⟩ => ⟨he, (below_drew h).trans (hb.mono (below_drew h).size)⟩⟩
  go_enter Tryz.func49, Tryz.ntmps49
  go_wp2
  go_loopw [4, 15] (fun v4 v W => v4 = .bool false ∧ v = .int .i64 0 ∧ W = w) (fun _ v W => 0)
  case atStart => exact ⟨rfl, rfl, rfl⟩
  case round =>
    obtain ⟨rfl, rfl, rfl⟩ := hrel
    go_wp2_with fail
    go_region_with (go_at_call 65; refine (HC.out _ (Below.refl _ _)).mono ?_; rintro e w' ⟨rfl, hb⟩)
    all_goals
      go_wp2
      go_ret
      exact ⟨rfl, hb⟩

set_option maxRecDepth 100000 in
set_option maxHeartbeats 4000000 in
/-- Two sites of one table that name no keys may touch one row. -/
theorem may_nil (p1 p2 t : ByteArray) (n1 n2 op1 op2 : Int) (r1 w1' c1 r2 w2' c2 : Bool) (h1 : op1 ≠ 11) (h2 : op2 ≠ 11) (w : World) :
    Calls Tryz.prog 31 #[.agg (siteC p1 n1 op1 t r1 w1' c1), .agg (siteC p2 n2 op2 t r2 w2' c2)] w fun e w' => e = .returned (.bool true) ∧ Below w.heap.size w w' := by
  have hu46 := Tryz.underlying48
  have hb1 := below_mk (Below.refl w.heap.size w) (.cells (siteC p1 n1 op1 t r1 w1' c1) 48)
  have hb2 := below_mk hb1 (.cells (siteC p2 n2 op2 t r2 w2' c2) 48)
  have e1 : (w.alloc (.cells (siteC p1 n1 op1 t r1 w1' c1) 48)).heap.size = w.heap.size + 1 := by simp
  have hn1 : ((w.alloc (.cells (siteC p1 n1 op1 t r1 w1' c1) 48)).alloc (.cells (siteC p2 n2 op2 t r2 w2' c2) 48)).heap[w.heap.size]? = some (.cells (siteC p1 n1 op1 t r1 w1' c1) 48 (0, 0)) := (Below.heap_alloc _ _ _ (by rw [e1]; omega)).trans (heap_alloc_new w _)
  have hn2 : ((w.alloc (.cells (siteC p1 n1 op1 t r1 w1' c1) 48)).alloc (.cells (siteC p2 n2 op2 t r2 w2' c2) 48)).heap[w.heap.size + 1]? = some (.cells (siteC p2 n2 op2 t r2 w2' c2) 48 (0, 0)) := by rw [← e1]; exact heap_alloc_new _ _
  have HX := Aside0.mk (And.intro hb2 (And.intro hn1 hn2))
  clear hb1 hb2 e1 hn1 hn2
  go_enter Tryz.func31, Tryz.ntmps31
  go_wp2_with fail
  refine (ends_nil p1 n1 op1 t r1 w1' c1 h1 _).mono ?_
  rintro e w2 ⟨rfl, hb2⟩
  obtain ⟨hbx, hn1, hn2⟩ := HX.out
  have hl1 := blk_lt hn1
  have hl2 := blk_lt hn2
  have hn1' := (hb2.block _ hl1).trans hn1
  have hn2' := (hb2.block _ hl2).trans hn2
  have x0 : ∀ j v, (siteC p2 n2 op2 t r2 w2' c2)[j]? = some v → w2.cell? ⟨w.heap.size + 1, j, none⟩ = some v := fun j v hv => (blk_cell hn2' j).trans hv
  have z0 := x0 0 _ rfl
  have z1 := x0 1 _ rfl
  have z2 := x0 2 _ rfl
  have z3 := x0 3 _ rfl
  have z4 := x0 4 _ rfl
  have z5 := x0 5 _ rfl
  have z6 := x0 6 _ rfl
  have z7 := x0 7 _ rfl
  have z8 := x0 8 _ rfl
  have HB2 := Aside0.mk (And.intro (hbx.trans (hb2.mono hbx.size)) (And.intro hn1' hn2'))
  clear hbx hn1 hn2 hl1 hl2 hb2 hn1' hn2' x0 HX
  go_wp2_with fail
  refine (ends_nil p2 n2 op2 t r2 w2' c2 h2 _).mono ?_
  rintro e w3 ⟨rfl, hb3⟩
  obtain ⟨hbx, hn1, hn2⟩ := HB2.out
  have hn1' := (hb3.block _ (blk_lt hn1)).trans hn1
  have hn2' := (hb3.block _ (blk_lt hn2)).trans hn2
  have HB3 := Aside0.mk (And.intro (hbx.trans (hb3.mono hbx.size)) (And.intro hn1' hn2'))
  clear hbx hn1 hn2 hb3 hn1' hn2' HB2 z0 z1 z2 z3 z4 z5 z6 z7 z8
  go_wp2_with fail
  refine (above_nil _).mono ?_
  rintro e w4 ⟨rfl, hb4⟩
  obtain ⟨hbx, hn1, hn2⟩ := HB3.out
  have hn1' := (hb4.block _ (blk_lt hn1)).trans hn1
  have hn2' := (hb4.block _ (blk_lt hn2)).trans hn2
  have HB4 := Aside0.mk (And.intro (hbx.trans (hb4.mono hbx.size)) (And.intro hn1' hn2'))
  clear hbx hn1 hn2 hb4 hn1' hn2' HB3
  go_wp2_with fail
  refine (above_nil _).mono ?_
  rintro e w5 ⟨rfl, hb5⟩
  obtain ⟨hbx, hn1, hn2⟩ := HB4.out
  have hn1' := (hb5.block _ (blk_lt hn1)).trans hn1
  have hn2' := (hb5.block _ (blk_lt hn2)).trans hn2
  have y2 : w5.cell? ⟨w.heap.size, 2, none⟩ = some (.int .i64 op1) := (blk_cell hn1' 2).trans rfl
  have y4 : w5.cell? ⟨w.heap.size, 4, none⟩ = some (.slice none 0 0) := (blk_cell hn1' 4).trans rfl
  have z2 : w5.cell? ⟨w.heap.size + 1, 2, none⟩ = some (.int .i64 op2) := (blk_cell hn2' 2).trans rfl
  have z4 : w5.cell? ⟨w.heap.size + 1, 4, none⟩ = some (.slice none 0 0) := (blk_cell hn2' 4).trans rfl
  have b1 : (op1 = 11) = False := eq_false h1
  have b2 : (op2 = 11) = False := eq_false h2
  have b1' : decide (op1 = 11) = false := decide_eq_false h1
  have b2' : decide (op2 = 11) = false := decide_eq_false h2
  have b1c : (op1 == 11) = false := by simpa using h1
  have b2c : (op2 == 11) = false := by simpa using h2
  have b1d : (op1 != 11) = true := by simpa using h1
  have b2d : (op2 != 11) = true := by simpa using h2
  have HB5 := Aside0.mk (hbx.trans (hb5.mono hbx.size))
  clear hbx hn1 hn2 hb5 hn1' hn2' HB4
  go_wp2_with fail
  go_loopw [4, 48] (fun v4 v W => v4 = .bool false ∧ v = .int .i64 0 ∧ W = w5) (fun _ v W => 0)
  case atStart => exact ⟨rfl, rfl, rfl⟩
  case round =>
    obtain ⟨rfl, rfl, rfl⟩ := hrel
    go_wp2_with fail
    go_ret
    exact ⟨rfl, HB5.out⟩

set_option maxHeartbeats 4000000 in
theorem id_calls (p : ByteArray) (n op : Int) (t : ByteArray) (r wr c : Bool) (w : World) : Calls Tryz.prog 32 #[.agg (siteC p n op t r wr c)] w fun e w' => e = .returned (.agg #[.string p, .int .i64 n]) ∧ Below w.heap.size w w' := by
  have hu46 := Tryz.underlying48
  have hu29 := Tryz.underlying37
  have hb1 := below_mk (Below.refl w.heap.size w) (.cells (siteC p n op t r wr c) 48)
  have hn1 := heap_alloc_new w (.cells (siteC p n op t r wr c) 48)
  have e1 : (w.alloc (.cells (siteC p n op t r wr c) 48)).heap.size = w.heap.size + 1 := by simp
  have hb2 := below_mk hb1 (.cells #[.string p, .int .i64 n] 37)
  have hn2 : ((w.alloc (.cells (siteC p n op t r wr c) 48)).alloc (.cells #[.string p, .int .i64 n] 37)).heap[w.heap.size + 1]? = some (.cells #[.string p, .int .i64 n] 37 (0, 0)) := by rw [← e1]; exact heap_alloc_new _ _
  have HX := Aside0.mk (And.intro hb2 hn2)
  clear e1 hb1 hn1 hb2 hn2
  go_enter Tryz.func32, Tryz.ntmps32
  go_wp2
  have y0 := (blk_cell HX.out.2 0).trans (show (#[Value.string p, .int .i64 n])[0]? = some (.string p) from rfl)
  have y1 := (blk_cell HX.out.2 1).trans (show (#[Value.string p, .int .i64 n])[1]? = some (.int .i64 n) from rfl)
  generalize (w.alloc (.cells (siteC p n op t r wr c) 48)).alloc (.cells #[.string p, .int .i64 n] 37) = W at *
  refine bodyPost_ret (v := .agg #[.string p, .int .i64 n]) (by simp [results, Tryz.results28, go_sem, y0, y1]) rfl ?_
  exact ⟨rfl, HX.out.1⟩

set_option maxHeartbeats 4000000 in
theorem reads_calls (w : World) : Calls Tryz.prog 19 #[] w fun e w' => e = .returned (.agg (siteC ⟨#[97]⟩ 0 5 ⟨#[116]⟩ true false false)) ∧ Below w.heap.size w w' := by
  have hu46 := Tryz.underlying48
  have hb := below_mk (Below.refl w.heap.size w) (.cells (siteC ⟨#[97]⟩ 0 5 ⟨#[116]⟩ true false false) 48)
  have hn := heap_alloc_new w (.cells (siteC ⟨#[97]⟩ 0 5 ⟨#[116]⟩ true false false) 48)
  have HX := Aside0.mk (And.intro hb hn)
  clear hb hn
  go_enter Tryz.func19, Tryz.ntmps19
  go_wp2
  have y : ∀ j v, (siteC ⟨#[97]⟩ 0 5 ⟨#[116]⟩ true false false)[j]? = some v → (w.alloc (.cells (siteC ⟨#[97]⟩ 0 5 ⟨#[116]⟩ true false false) 48)).cell? ⟨w.heap.size, j, none⟩ = some v := fun j v hv => (blk_cell HX.out.2 j).trans hv
  have y0 := y 0 _ rfl
  have y1 := y 1 _ rfl
  have y2 := y 2 _ rfl
  have y3 := y 3 _ rfl
  have y4 := y 4 _ rfl
  have y5 := y 5 _ rfl
  have y6 := y 6 _ rfl
  have y7 := y 7 _ rfl
  have y8 := y 8 _ rfl
  clear y
  generalize w.alloc (.cells (siteC ⟨#[97]⟩ 0 5 ⟨#[116]⟩ true false false) 48) = W at *
  refine bodyPost_ret (v := .agg (siteC ⟨#[97]⟩ 0 5 ⟨#[116]⟩ true false false)) (by simp [results, Tryz.results17, go_sem, y0, y1, y2, y3, y4, y5, y6, y7, y8]) rfl ?_
  exact ⟨rfl, HX.out.1⟩

set_option maxHeartbeats 4000000 in
theorem writes_calls (w : World) : Calls Tryz.prog 20 #[] w fun e w' => e = .returned (.agg (siteC ⟨#[98]⟩ 1 7 ⟨#[116]⟩ false true false)) ∧ Below w.heap.size w w' := by
  have hu46 := Tryz.underlying48
  have hb := below_mk (Below.refl w.heap.size w) (.cells (siteC ⟨#[98]⟩ 1 7 ⟨#[116]⟩ false true false) 48)
  have hn := heap_alloc_new w (.cells (siteC ⟨#[98]⟩ 1 7 ⟨#[116]⟩ false true false) 48)
  have HX := Aside0.mk (And.intro hb hn)
  clear hb hn
  go_enter Tryz.func20, Tryz.ntmps20
  go_wp2
  have y : ∀ j v, (siteC ⟨#[98]⟩ 1 7 ⟨#[116]⟩ false true false)[j]? = some v → (w.alloc (.cells (siteC ⟨#[98]⟩ 1 7 ⟨#[116]⟩ false true false) 48)).cell? ⟨w.heap.size, j, none⟩ = some v := fun j v hv => (blk_cell HX.out.2 j).trans hv
  have y0 := y 0 _ rfl
  have y1 := y 1 _ rfl
  have y2 := y 2 _ rfl
  have y3 := y 3 _ rfl
  have y4 := y 4 _ rfl
  have y5 := y 5 _ rfl
  have y6 := y 6 _ rfl
  have y7 := y 7 _ rfl
  have y8 := y 8 _ rfl
  clear y
  generalize w.alloc (.cells (siteC ⟨#[98]⟩ 1 7 ⟨#[116]⟩ false true false) 48) = W at *
  refine bodyPost_ret (v := .agg (siteC ⟨#[98]⟩ 1 7 ⟨#[116]⟩ false true false)) (by simp [results, Tryz.results18, go_sem, y0, y1, y2, y3, y4, y5, y6, y7, y8]) rfl ?_
  exact ⟨rfl, HX.out.1⟩

end Go.Proofs.YtknpkfjaffhejaaGreat

namespace Go.Proofs.YtknpkfjaffhejaaGreat
open Go.RowKit Go.Proofs.YtknpkfjaffhejaaGreatW.PrintWords Go.Proofs.YtknpkfjaffhejaaGreatW.PrintLast Go.Proofs.YtknpkfjaffhejaaGreatW.PrintMore
set_option linter.unusedVariables false
set_option linter.unusedSimpArgs false

/-- An edge's cells. -/
def EdgeAt (g o : Nat) (p : ByteArray) (n : Int) (q : ByteArray) (m : Int) (k : Int) (v : Bool) (w : World) : Prop :=
  w.cell? ⟨g, o, none⟩ = some (.string p) ∧ w.cell? ⟨g, o + 1, none⟩ = some (.int .i64 n) ∧ w.cell? ⟨g, o + 2, none⟩ = some (.string q) ∧ w.cell? ⟨g, o + 3, none⟩ = some (.int .i64 m) ∧ w.cell? ⟨g, o + 4, none⟩ = some (.int .i64 k) ∧ w.cell? ⟨g, o + 5, none⟩ = some (.bool v)

set_option maxRecDepth 100000 in
set_option maxHeartbeats 8000000 in
/-- The simplest edge. -/
theorem between_calls (w : World) : Calls Tryz.prog 18 #[.agg (siteC ⟨#[97]⟩ 0 5 ⟨#[116]⟩ true false false), .agg (siteC ⟨#[98]⟩ 1 7 ⟨#[116]⟩ false true false)] w fun e w' =>
    Below w.heap.size w w' ∧ ∃ (g c : Nat), e = .returned (.slice (some ⟨g, 0, none⟩) 1 c) ∧ EdgeAt g 0 ⟨#[97]⟩ 0 ⟨#[98]⟩ 1 3 true w' := by
  have hu46 := Tryz.underlying48
  have hu29 := Tryz.underlying37
  have hu31 := Tryz.underlying39
  have hb1 := below_mk (Below.refl w.heap.size w) (.cells (siteC ⟨#[97]⟩ 0 5 ⟨#[116]⟩ true false false) 48)
  have hb2 := below_mk hb1 (.cells (siteC ⟨#[98]⟩ 1 7 ⟨#[116]⟩ false true false) 48)
  have e1 : (w.alloc (.cells (siteC ⟨#[97]⟩ 0 5 ⟨#[116]⟩ true false false) 48)).heap.size = w.heap.size + 1 := by simp
  have hn1 : ((w.alloc (.cells (siteC ⟨#[97]⟩ 0 5 ⟨#[116]⟩ true false false) 48)).alloc (.cells (siteC ⟨#[98]⟩ 1 7 ⟨#[116]⟩ false true false) 48)).heap[w.heap.size]? = some (.cells (siteC ⟨#[97]⟩ 0 5 ⟨#[116]⟩ true false false) 48 (0, 0)) := (Below.heap_alloc _ _ _ (by rw [e1]; omega)).trans (heap_alloc_new w _)
  have hn2 : ((w.alloc (.cells (siteC ⟨#[97]⟩ 0 5 ⟨#[116]⟩ true false false) 48)).alloc (.cells (siteC ⟨#[98]⟩ 1 7 ⟨#[116]⟩ false true false) 48)).heap[w.heap.size + 1]? = some (.cells (siteC ⟨#[98]⟩ 1 7 ⟨#[116]⟩ false true false) 48 (0, 0)) := by rw [← e1]; exact heap_alloc_new _ _
  have HX := Aside0.mk (And.intro hb2 (And.intro hn1 hn2))
  clear hb1 hb2 e1 hn1 hn2
  have HM := Aside0.mk (may_nil ⟨#[97]⟩ ⟨#[98]⟩ ⟨#[116]⟩ 0 1 5 7 true false false false true false (by decide) (by decide) ((w.alloc (.cells (siteC ⟨#[97]⟩ 0 5 ⟨#[116]⟩ true false false) 48)).alloc (.cells (siteC ⟨#[98]⟩ 1 7 ⟨#[116]⟩ false true false) 48)))
  go_enter Tryz.func18, Tryz.ntmps18
  go_wp2_with fail
  refine HM.out.mono ?_
  rintro e w2 ⟨rfl, hb2⟩
  obtain ⟨hbx, hn1, hn2⟩ := HX.out
  have hn1' := (hb2.block _ (blk_lt hn1)).trans hn1
  have hn2' := (hb2.block _ (blk_lt hn2)).trans hn2
  have HB2 := Aside0.mk (hbx.trans (hb2.mono hbx.size))
  clear hbx hn1 hn2 hb2 HX HM
  have HSK : Aside0 (∀ W, Below w2.heap.size w2 W → ((W.cell? ⟨w.heap.size, 0, none⟩ = some (.string ⟨#[97]⟩) ∧ W.cell? ⟨w.heap.size, 1, none⟩ = some (.int .i64 0) ∧ W.cell? ⟨w.heap.size, 2, none⟩ = some (.int .i64 5) ∧ W.cell? ⟨w.heap.size, 3, none⟩ = some (.string ⟨#[116]⟩) ∧ W.cell? ⟨w.heap.size, 4, none⟩ = some (.slice none 0 0) ∧ W.cell? ⟨w.heap.size, 5, none⟩ = some (.slice none 0 0) ∧ W.cell? ⟨w.heap.size, 6, none⟩ = some (.bool true) ∧ W.cell? ⟨w.heap.size, 7, none⟩ = some (.bool false) ∧ W.cell? ⟨w.heap.size, 8, none⟩ = some (.bool false)) ∧
      (W.cell? ⟨w.heap.size + 1, 0, none⟩ = some (.string ⟨#[98]⟩) ∧ W.cell? ⟨w.heap.size + 1, 1, none⟩ = some (.int .i64 1) ∧ W.cell? ⟨w.heap.size + 1, 2, none⟩ = some (.int .i64 7) ∧ W.cell? ⟨w.heap.size + 1, 3, none⟩ = some (.string ⟨#[116]⟩) ∧ W.cell? ⟨w.heap.size + 1, 4, none⟩ = some (.slice none 0 0) ∧ W.cell? ⟨w.heap.size + 1, 5, none⟩ = some (.slice none 0 0) ∧ W.cell? ⟨w.heap.size + 1, 6, none⟩ = some (.bool false) ∧ W.cell? ⟨w.heap.size + 1, 7, none⟩ = some (.bool true) ∧ W.cell? ⟨w.heap.size + 1, 8, none⟩ = some (.bool false))) ∧ Below w2.heap.size w2 W) := ⟨fun W hb => by
    have k1 := (hb.block _ (blk_lt hn1')).trans hn1'
    have k2 := (hb.block _ (blk_lt hn2')).trans hn2'
    exact ⟨⟨⟨(blk_cell k1 0).trans rfl, (blk_cell k1 1).trans rfl, (blk_cell k1 2).trans rfl, (blk_cell k1 3).trans rfl, (blk_cell k1 4).trans rfl, (blk_cell k1 5).trans rfl, (blk_cell k1 6).trans rfl, (blk_cell k1 7).trans rfl, (blk_cell k1 8).trans rfl⟩,
      ⟨(blk_cell k2 0).trans rfl, (blk_cell k2 1).trans rfl, (blk_cell k2 2).trans rfl, (blk_cell k2 3).trans rfl, (blk_cell k2 4).trans rfl, (blk_cell k2 5).trans rfl, (blk_cell k2 6).trans rfl, (blk_cell k2 7).trans rfl, (blk_cell k2 8).trans rfl⟩⟩, hb⟩⟩
  obtain ⟨⟨⟨x0, x1, x2, x3, x4, x5, x6, x7, x8⟩, ⟨y0, y1, y2, y3, y4, y5, y6, y7, y8⟩⟩, _⟩ := HSK.out w2 (Below.refl _ _)
  clear hn1' hn2'
  go_wp2_with fail
  go_region_held3 (fun W => ((W.cell? ⟨w.heap.size, 0, none⟩ = some (.string ⟨#[97]⟩) ∧ W.cell? ⟨w.heap.size, 1, none⟩ = some (.int .i64 0) ∧ W.cell? ⟨w.heap.size, 2, none⟩ = some (.int .i64 5) ∧ W.cell? ⟨w.heap.size, 3, none⟩ = some (.string ⟨#[116]⟩) ∧ W.cell? ⟨w.heap.size, 4, none⟩ = some (.slice none 0 0) ∧ W.cell? ⟨w.heap.size, 5, none⟩ = some (.slice none 0 0) ∧ W.cell? ⟨w.heap.size, 6, none⟩ = some (.bool true) ∧ W.cell? ⟨w.heap.size, 7, none⟩ = some (.bool false) ∧ W.cell? ⟨w.heap.size, 8, none⟩ = some (.bool false)) ∧
      (W.cell? ⟨w.heap.size + 1, 0, none⟩ = some (.string ⟨#[98]⟩) ∧ W.cell? ⟨w.heap.size + 1, 1, none⟩ = some (.int .i64 1) ∧ W.cell? ⟨w.heap.size + 1, 2, none⟩ = some (.int .i64 7) ∧ W.cell? ⟨w.heap.size + 1, 3, none⟩ = some (.string ⟨#[116]⟩) ∧ W.cell? ⟨w.heap.size + 1, 4, none⟩ = some (.slice none 0 0) ∧ W.cell? ⟨w.heap.size + 1, 5, none⟩ = some (.slice none 0 0) ∧ W.cell? ⟨w.heap.size + 1, 6, none⟩ = some (.bool false) ∧ W.cell? ⟨w.heap.size + 1, 7, none⟩ = some (.bool true) ∧ W.cell? ⟨w.heap.size + 1, 8, none⟩ = some (.bool false))) ∧ Below w2.heap.size w2 W) (exact HSK.out _ (by repeat (first | assumption | exact Below.refl _ _ | refine below_drew ?_ | refine below_mk ?_ _))) (first | (go_at_call 32; refine (id_calls _ _ _ _ _ _ _ _).mono ?_; rintro e w3 ⟨rfl, hb3⟩; have hq3 := below_go hb3 (And.right (by assumption))))
  have hs3 : ∀ o, (w3.alloc o).heap.size = w3.heap.size + 1 := fun o => by simp
  have HF : ∀ (E Z : Array Value), E.size = 6 → ∀ j, j < 6 → ((w3.alloc (.cells E 39)).alloc (.cells (E ++ Z) 39)).drew.cell? ⟨w3.heap.size + 1, j, none⟩ = E[j]? := fun E Z hE j hj => by
    have h1 := heap_alloc_new (w3.alloc (.cells E 39)) (.cells (E ++ Z) 39)
    rw [hs3] at h1
    have h2 := blk_cell h1 j
    rw [Array.getElem?_append_left (by omega)] at h2
    exact h2
  have HBX : ∀ o1 o2, Below w.heap.size w ((w3.alloc o1).alloc o2).drew := fun o1 o2 => HB2.out.trans ((below_drew (below_mk (below_mk hq3 o1) o2)).mono HB2.out.size)
  have HF := Aside0.mk HF
  have HBX := Aside0.mk HBX
  clear hs3 hq3
  go_wp2_with fail
  go_ret
  refine ⟨HBX.out _ _, _, _, rfl, ?_⟩
  refine ⟨(HF.out _ _ rfl 0 (by omega)).trans rfl, (HF.out _ _ rfl 1 (by omega)).trans rfl, (HF.out _ _ rfl 2 (by omega)).trans rfl, (HF.out _ _ rfl 3 (by omega)).trans rfl, (HF.out _ _ rfl 4 (by omega)).trans rfl, (HF.out _ _ rfl 5 (by omega)).trans rfl⟩

set_option maxRecDepth 100000 in
set_option maxHeartbeats 8000000 in
/-- The simplest edge comes. -/
theorem begun_calls (w : World) : Calls Tryz.prog 5 #[] w fun e w' => e = .returned (.bool true) ∧ Below w.heap.size w w' := by
  have hu31 := Tryz.underlying39
  have hu29 := Tryz.underlying37
  go_enter Tryz.func5, Tryz.ntmps5
  go_wp2_with fail
  refine (reads_calls _).mono ?_
  rintro e w1 ⟨rfl, hb1⟩
  have HB1 := Aside0.mk hb1
  clear hb1
  go_wp2_with fail
  refine (writes_calls _).mono ?_
  rintro e w2 ⟨rfl, hb2⟩
  have HB2 := Aside0.mk (HB1.out.trans (hb2.mono HB1.out.size))
  clear hb2 HB1
  go_wp2_with fail
  refine (between_calls _).mono ?_
  rintro e w3 ⟨hb3, g, c, rfl, x0, x1, x2, x3, x4, x5⟩
  have HB3 := Aside0.mk (HB2.out.trans (hb3.mono HB2.out.size))
  clear hb3 HB2
  go_wp2_with fail
  go_ret
  exact ⟨rfl, HB3.out⟩
end Go.Proofs.YtknpkfjaffhejaaGreat
