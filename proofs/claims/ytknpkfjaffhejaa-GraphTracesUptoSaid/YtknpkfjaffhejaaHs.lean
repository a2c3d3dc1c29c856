/- WHAT IS PROVED: hasEdge and hasSite find what is there. -/
import Derived.Test.YtknpkfjaffhejaaLr
import Derived.Test.YtknpkfjaffhejaaSq
namespace Go.Proofs.Ytknpkfjaffhejaa
open Go.RowKit Go.Sort Go.Lib Go.Proofs.YtknpkfjaffhejaaW.PrintWords Go.Proofs.YtknpkfjaffhejaaW.PrintLast Go.Proofs.YtknpkfjaffhejaaW.PrintMore
set_option linter.unusedVariables false
set_option linter.unusedSimpArgs false

theorem not_all {α : Type} [Inhabited α] {l : List α} {x : α} (hx : x ∈ l) (h : ∀ j, j < l.length → l[j]! ≠ x) : False := by
  obtain ⟨j, hj, rfl⟩ := List.getElem_of_mem hx
  exact h j hj (by rw [getElem!_pos l j hj])

set_option maxRecDepth 100000 in
set_option maxHeartbeats 4000000 in
theorem hasEdge_calls (W : World) (v : Value) (l : List Edge) (x : Edge) {m0 : Nat} (h : EdR m0 W v l) (hx : x ∈ l) (hn : l.length ≤ 1048576) :
    Calls Try.prog 8 #[v, .agg (encE x).toArray] W fun e W' => e = .returned (.bool true) ∧ Below W.heap.size W W' := by
  obtain ⟨p, n, q, m, k, vv⟩ := x
  show Calls Try.prog 8 #[v, .agg #[.string p, .int .i64 n, .string q, .int .i64 m, .int .i64 k, .bool vv]] W _
  have h' := h
  obtain ⟨A, c, rfl, _⟩ := h'
  have hu31 := Try.underlying31
  have hbx := heap_alloc_new W (.cells #[.string p, .int .i64 n, .string q, .int .i64 m, .int .i64 k, .bool vv] 31)
  have hb0 := below_mk (Below.refl W.heap.size W) (.cells #[.string p, .int .i64 n, .string q, .int .i64 m, .int .i64 k, .bool vv] 31)
  have HH := Aside0.mk (And.intro h (And.intro hbx hb0))
  have HX := Aside0.mk hx
  clear h hbx hb0 hx
  go_enter Try.func8, Try.ntmps8
  go_wp2_with fail
  generalize W.alloc (.cells #[.string p, .int .i64 n, .string q, .int .i64 m, .int .i64 k, .bool vv] 31) = W0 at *
  go_loopw [9] (fun v wr => ∃ i : Nat, v = .int .i64 (i : Nat) ∧ i ≤ l.length ∧ Aside0 (Below W0.heap.size W0 wr ∧ ∀ j, j < i → l[j]! ≠ ⟨p, n, q, m, k, vv⟩)) (fun v wr => l.length - (RowKit.intOf v).toNat)
  case atStart => exact ⟨0, rfl, Nat.zero_le _, ⟨Below.refl _ _, fun j hj => absurd hj (by omega)⟩⟩
  case round =>
    obtain ⟨i, rfl, hi, HI⟩ := hrel
    by_cases hlt : i < l.length
    · have d1 : decide (((i : Nat) : Int) < ((l.length : Nat) : Int)) = true := decide_eq_true (by omega)
      have p0 : ((0 : Int) ≤ ((i : Nat) : Int)) = True := eq_true (by omega)
      have p1 : (((i : Nat) : Int) < ((l.length : Nat) : Int)) = True := eq_true (by omega)
      obtain ⟨_, b, off, rfl, y0, y1, y2, y3, y4, y5⟩ := (HH.out.1.below (below_to HH.out.2.2 HI.out.1)).cells i hlt
      have HXE : Aside0 (∀ j, j < i + 1 → l[i]! ≠ ⟨p, n, q, m, k, vv⟩ → l[j]! ≠ ⟨p, n, q, m, k, vv⟩) := ⟨fun j hj hne => by
        by_cases e : j = i
        · subst e; exact hne
        · exact HI.out.2 j (by omega)⟩
      have hee := fun w => eqE l[i]! ⟨p, n, q, m, k, vv⟩ w
      obtain ⟨⟨p', n', q', m', k', v'⟩, hxe⟩ : ∃ y, l[i]! = y := ⟨_, rfl⟩
      rw [hxe] at y0 y1 y2 y3 y4 y5 HXE hee
      clear hxe
      have hgu : ∀ (op : BinOp) (a b : Operand) w, Sem.run Try.prog (eqGuard op 31 a b (.agg #[.string p', .int .i64 n', .string q', .int .i64 m', .int .i64 k', .bool v']) (.agg #[.string p, .int .i64 n, .string q, .int .i64 m, .int .i64 k, .bool vv])) w = .ok () w := fun op a b w => guardE op a b ⟨p', n', q', m', k', v'⟩ ⟨p, n, q, m, k, vv⟩ w
      have hnN := heap_alloc_new wr (.cells #[.string p', .int .i64 n', .string q', .int .i64 m', .int .i64 k', .bool v'] 31)
      have hbN := below_mk (Below.refl wr.heap.size wr) (.cells #[.string p', .int .i64 n', .string q', .int .i64 m', .int .i64 k', .bool v'] 31)
      have hbW := below_to HI.out.1 hbN
      have hB := (hbW.block _ (blk_lt HH.out.2.1)).trans HH.out.2.1
      have a0 := (blk_cell hnN 0).trans (show (#[Value.string p', Value.int .i64 n', Value.string q', Value.int .i64 m', Value.int .i64 k', Value.bool v'])[0]? = some (.string p') from rfl)
      have x0 := (blk_cell hB 0).trans (show (#[Value.string p, Value.int .i64 n, Value.string q, Value.int .i64 m, Value.int .i64 k, Value.bool vv])[0]? = some (.string p) from rfl)
      have a1 := (blk_cell hnN 1).trans (show (#[Value.string p', Value.int .i64 n', Value.string q', Value.int .i64 m', Value.int .i64 k', Value.bool v'])[1]? = some (.int .i64 n') from rfl)
      have x1 := (blk_cell hB 1).trans (show (#[Value.string p, Value.int .i64 n, Value.string q, Value.int .i64 m, Value.int .i64 k, Value.bool vv])[1]? = some (.int .i64 n) from rfl)
      have a2 := (blk_cell hnN 2).trans (show (#[Value.string p', Value.int .i64 n', Value.string q', Value.int .i64 m', Value.int .i64 k', Value.bool v'])[2]? = some (.string q') from rfl)
      have x2 := (blk_cell hB 2).trans (show (#[Value.string p, Value.int .i64 n, Value.string q, Value.int .i64 m, Value.int .i64 k, Value.bool vv])[2]? = some (.string q) from rfl)
      have a3 := (blk_cell hnN 3).trans (show (#[Value.string p', Value.int .i64 n', Value.string q', Value.int .i64 m', Value.int .i64 k', Value.bool v'])[3]? = some (.int .i64 m') from rfl)
      have x3 := (blk_cell hB 3).trans (show (#[Value.string p, Value.int .i64 n, Value.string q, Value.int .i64 m, Value.int .i64 k, Value.bool vv])[3]? = some (.int .i64 m) from rfl)
      have a4 := (blk_cell hnN 4).trans (show (#[Value.string p', Value.int .i64 n', Value.string q', Value.int .i64 m', Value.int .i64 k', Value.bool v'])[4]? = some (.int .i64 k') from rfl)
      have x4 := (blk_cell hB 4).trans (show (#[Value.string p, Value.int .i64 n, Value.string q, Value.int .i64 m, Value.int .i64 k, Value.bool vv])[4]? = some (.int .i64 k) from rfl)
      have a5 := (blk_cell hnN 5).trans (show (#[Value.string p', Value.int .i64 n', Value.string q', Value.int .i64 m', Value.int .i64 k', Value.bool v'])[5]? = some (.bool v') from rfl)
      have x5 := (blk_cell hB 5).trans (show (#[Value.string p, Value.int .i64 n, Value.string q, Value.int .i64 m, Value.int .i64 k, Value.bool vv])[5]? = some (.bool vv) from rfl)
      have HBW := Aside0.mk hbW
      clear hnN hbN hbW hB
      by_cases he : (⟨p', n', q', m', k', v'⟩ : Edge) = ⟨p, n, q, m, k, vv⟩
      · have hee2 : ∀ w, Sem.run Try.prog (binOp .eql 31 (.agg #[.string p', .int .i64 n', .string q', .int .i64 m', .int .i64 k', .bool v']) (.agg #[.string p, .int .i64 n, .string q, .int .i64 m, .int .i64 k, .bool vv])) w = .ok (.bool true) w := fun w => by
          have := hee w
          rw [decide_eq_true he] at this
          exact this
        clear hee he
        go_wp2_with fail
        go_ret
        exact ⟨rfl, below_to HH.out.2.2 HBW.out⟩
      · have hee2 : ∀ w, Sem.run Try.prog (binOp .eql 31 (.agg #[.string p', .int .i64 n', .string q', .int .i64 m', .int .i64 k', .bool v']) (.agg #[.string p, .int .i64 n, .string q, .int .i64 m, .int .i64 k, .bool vv])) w = .ok (.bool false) w := fun w => by
          have := hee w
          rw [decide_eq_false he] at this
          exact this
        have HNE := Aside0.mk he
        clear hee he
        go_wp2_with fail
        go_roundw
        case measure => show l.length - (i + 1) < l.length - i; omega
        case rel => exact ⟨i + 1, by first | rfl | (simp; done), by omega, ⟨HBW.out, fun j hj => HXE.out j hj HNE.out⟩⟩
    · obtain rfl : i = l.length := by omega
      exact (not_all HX.out HI.out.2).elim

theorem guard29 (op : BinOp) (a b : Operand) (x y : SI) (w : World) : Sem.run Try.prog (eqGuard op 29 a b (.agg #[.string x.1, .int .i64 x.2]) (.agg #[.string y.1, .int .i64 y.2])) w = .ok () w := run_eqGuard_agg w op 29 a b _ _ (by kernel_rfl)

set_option maxRecDepth 100000 in
set_option maxHeartbeats 4000000 in
theorem hasSite_calls (W : World) (v : Value) (l : List SI) (x : SI) (h : SiR W v l) (hx : x ∈ l) (hn : l.length ≤ 1099511627776) :
    Calls Try.prog 9 #[v, .agg #[.string x.1, .int .i64 x.2]] W fun e W' => e = .returned (.bool true) ∧ Below W.heap.size W W' := by
  obtain ⟨p, n⟩ := x
  show Calls Try.prog 9 #[v, .agg #[.string p, .int .i64 n]] W _
  obtain ⟨A, c, rfl⟩ := h.form
  have hu29 := Try.underlying29
  have hbx := heap_alloc_new W (.cells #[.string p, .int .i64 n] 29)
  have hb0 := below_mk (Below.refl W.heap.size W) (.cells #[.string p, .int .i64 n] 29)
  have HH := Aside0.mk (And.intro h (And.intro hbx hb0))
  have HX := Aside0.mk hx
  clear h hbx hb0 hx
  go_enter Try.func9, Try.ntmps9
  go_wp2_with fail
  generalize W.alloc (.cells #[.string p, .int .i64 n] 29) = W0 at *
  go_loopw [9] (fun v wr => ∃ i : Nat, v = .int .i64 (i : Nat) ∧ i ≤ l.length ∧ Aside0 (Below W0.heap.size W0 wr ∧ ∀ j, j < i → l[j]! ≠ (p, n))) (fun v wr => l.length - (RowKit.intOf v).toNat)
  case atStart => exact ⟨0, rfl, Nat.zero_le _, ⟨Below.refl _ _, fun j hj => absurd hj (by omega)⟩⟩
  case round =>
    obtain ⟨i, rfl, hi, HI⟩ := hrel
    by_cases hlt : i < l.length
    · have d1 : decide (((i : Nat) : Int) < ((l.length : Nat) : Int)) = true := decide_eq_true (by omega)
      have p0 : ((0 : Int) ≤ ((i : Nat) : Int)) = True := eq_true (by omega)
      have p1 : (((i : Nat) : Int) < ((l.length : Nat) : Int)) = True := eq_true (by omega)
      obtain ⟨b, off, rfl, y0, y1⟩ := (HH.out.1.below (below_to HH.out.2.2 HI.out.1)).cells i hlt
      have HXE : Aside0 (∀ j, j < i + 1 → l[i]! ≠ (p, n) → l[j]! ≠ (p, n)) := ⟨fun j hj hne => by
        by_cases e : j = i
        · subst e; exact hne
        · exact HI.out.2 j (by omega)⟩
      obtain ⟨⟨p', n'⟩, hxe⟩ : ∃ y, l[i]! = y := ⟨_, rfl⟩
      rw [hxe] at y0 y1 HXE
      clear hxe
      have hgu : ∀ (op : BinOp) (a b : Operand) w, Sem.run Try.prog (eqGuard op 29 a b (.agg #[.string p', .int .i64 n']) (.agg #[.string p, .int .i64 n])) w = .ok () w := fun op a b w => guard29 op a b (p', n') (p, n) w
      have hee := fun w => eq29 p' p n' n w
      have hnN := heap_alloc_new wr (.cells #[.string p', .int .i64 n'] 29)
      have hbN := below_mk (Below.refl wr.heap.size wr) (.cells #[.string p', .int .i64 n'] 29)
      have hbW := below_to HI.out.1 hbN
      have hB := (hbW.block _ (blk_lt HH.out.2.1)).trans HH.out.2.1
      have a0 := (blk_cell hnN 0).trans (show (#[Value.string p', .int .i64 n'])[0]? = some (.string p') from rfl)
      have a1 := (blk_cell hnN 1).trans (show (#[Value.string p', .int .i64 n'])[1]? = some (.int .i64 n') from rfl)
      have x0 := (blk_cell hB 0).trans (show (#[Value.string p, .int .i64 n])[0]? = some (.string p) from rfl)
      have x1 := (blk_cell hB 1).trans (show (#[Value.string p, .int .i64 n])[1]? = some (.int .i64 n) from rfl)
      have HBW := Aside0.mk hbW
      clear hnN hbN hbW hB
      by_cases he : p' = p ∧ n' = n
      · have d2 : decide (p' = p ∧ n' = n) = true := decide_eq_true he
        clear he
        go_wp2_with fail
        go_ret
        exact ⟨rfl, below_to HH.out.2.2 HBW.out⟩
      · have d2 : decide (p' = p ∧ n' = n) = false := decide_eq_false he
        have HNE : Aside0 ((p', n') ≠ (p, n)) := ⟨fun e => he (by simpa using e)⟩
        clear he
        go_wp2_with fail
        go_roundw
        case measure => show l.length - (i + 1) < l.length - i; omega
        case rel => exact ⟨i + 1, by first | rfl | (simp; done), by omega, ⟨HBW.out, fun j hj => HXE.out j hj HNE.out⟩⟩
    · obtain rfl : i = l.length := by omega
      exact (not_all HX.out HI.out.2).elim
end Go.Proofs.Ytknpkfjaffhejaa
