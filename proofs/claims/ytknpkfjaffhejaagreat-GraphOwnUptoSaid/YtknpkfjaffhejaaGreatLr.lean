/- WHAT IS PROVED: the reference's orders of sites and of edges are the program's. -/
import Derived.Test.YtknpkfjaffhejaaGreatIn
import Derived.Test.YtknpkfjaffhejaaGreatDn
namespace Go.Proofs.YtknpkfjaffhejaaGreat
open Go.RowKit Go.Sort Go.Lib Go.Proofs.YtknpkfjaffhejaaGreatW.PrintWords Go.Proofs.YtknpkfjaffhejaaGreatW.PrintLast Go.Proofs.YtknpkfjaffhejaaGreatW.PrintMore
set_option linter.unusedVariables false
set_option linter.unusedSimpArgs false

/-- The order of sites. -/
def lessI (p : ByteArray) (n : Int) (q : ByteArray) (m : Int) : Bool := decide (cmpId p n q m < 0)
theorem lessI_lt {p q : ByteArray} (h : blt p q = true) (n m : Int) : lessI p n q m = true := by
  unfold lessI cmpId
  rw [orI_2]
  simp [lexC, cmpS, h]
theorem lessI_eq {p q : ByteArray} (h : p = q) (n m : Int) : lessI p n q m = decide (n < m) := by
  subst h
  unfold lessI cmpId
  rw [orI_2]
  simp only [lexC, cmpS, blt_irrefl, Bool.false_eq_true, if_false, if_true, decide_eq_decide]
  unfold cmpI
  constructor
  · intro h
    by_cases e : n < m
    · exact e
    · rw [if_neg e] at h
      split at h <;> omega
  · intro h
    rw [if_pos h]
    omega
theorem lessI_ne {p q : ByteArray} (h : blt p q = false) (he : p ≠ q) (n m : Int) : lessI p n q m = false := by
  unfold lessI cmpId
  rw [orI_2]
  have : blt q p = true := by
    cases e : blt q p
    · exact absurd (blt_tri h e) he
    · rfl
  simp [lexC, cmpS, h, this]

set_option maxRecDepth 100000 in
set_option maxHeartbeats 4000000 in
theorem lessid_calls (p : ByteArray) (n : Int) (q : ByteArray) (m : Int) (w : World) : Calls Tryz.prog 40 #[.agg #[.string p, .int .i64 n], .agg #[.string q, .int .i64 m]] w fun e w' => e = .returned (.bool (lessI p n q m)) ∧ Gr w w' := by
  have hu29 := Tryz.underlying37
  have hG := ((Gr.refl w).alloc (.cells #[.string p, .int .i64 n] 37)).alloc (.cells #[.string q, .int .i64 m] 37)
  have e1 : (w.alloc (.cells #[.string p, .int .i64 n] 37)).heap.size = w.heap.size + 1 := by simp
  have hn1 : ((w.alloc (.cells #[.string p, .int .i64 n] 37)).alloc (.cells #[.string q, .int .i64 m] 37)).heap[w.heap.size]? = some (.cells #[.string p, .int .i64 n] 37 (0, 0)) := (Below.heap_alloc _ _ _ (by rw [e1]; omega)).trans (heap_alloc_new w _)
  have hn2 : ((w.alloc (.cells #[.string p, .int .i64 n] 37)).alloc (.cells #[.string q, .int .i64 m] 37)).heap[w.heap.size + 1]? = some (.cells #[.string q, .int .i64 m] 37 (0, 0)) := by rw [← e1]; exact heap_alloc_new _ _
  have x0 := (blk_cell hn1 0).trans (show (#[Value.string p, .int .i64 n])[0]? = some (.string p) from rfl)
  have x1 := (blk_cell hn1 1).trans (show (#[Value.string p, .int .i64 n])[1]? = some (.int .i64 n) from rfl)
  have y0 := (blk_cell hn2 0).trans (show (#[Value.string q, .int .i64 m])[0]? = some (.string q) from rfl)
  have y1 := (blk_cell hn2 1).trans (show (#[Value.string q, .int .i64 m])[1]? = some (.int .i64 m) from rfl)
  have HG := Aside0.mk hG
  clear hn1 hn2 hG
  rw [show w.heap.size + 1 = (w.alloc (.cells #[.string p, .int .i64 n] 37)).heap.size from e1.symm] at y0 y1
  cases c : blt p q with
  | true =>
    have c' : Op.bytesLess p.toList q.toList = true := c
    have HL := Aside0.mk (lessI_lt c n m)
    clear c
    go_enter Tryz.func40, Tryz.ntmps40
    go_wp2_with fail
    go_ret
    exact ⟨by rw [HL.out]; rfl, HG.out⟩
  | false =>
    have c' : Op.bytesLess p.toList q.toList = false := c
    by_cases e : p = q
    · have d' : (p.toList == q.toList) = true := by rw [e]; simp
      have HL := Aside0.mk (lessI_eq e n m)
      clear c e
      go_enter Tryz.func40, Tryz.ntmps40
      go_wp2_with fail
      go_ret
      exact ⟨by rw [HL.out]; rfl, HG.out⟩
    · have d' : (p.toList == q.toList) = false := by
        have : p.toList ≠ q.toList := fun h => e (toList_inj h)
        simpa using this
      have HL := Aside0.mk (lessI_ne c e n m)
      clear c e
      go_enter Tryz.func40, Tryz.ntmps40
      go_wp2_with fail
      go_ret
      exact ⟨by rw [HL.out]; rfl, HG.out⟩

/-- The order of edges. -/
def lessE (a b : Edge) : Bool := ltOf cmpE a b
theorem lessE_from {a b : Edge} (h : ¬ (a.p = b.p ∧ a.n = b.n)) : lessE a b = lessI a.p a.n b.p b.n := by
  unfold lessE ltOf lessI
  rw [cmpE_lex]
  have hs : cmpSite (a.p, a.n) (b.p, b.n) ≠ 0 := fun e => h (by simpa using cmpSite3.eq _ _ e)
  unfold lexC
  rw [if_neg hs]
  rfl
theorem lessE_to {a b : Edge} (h : a.p = b.p ∧ a.n = b.n) (k : ¬ (a.q = b.q ∧ a.m = b.m)) : lessE a b = lessI a.q a.m b.q b.m := by
  unfold lessE ltOf lessI
  rw [cmpE_lex, h.1, h.2]
  have hs : cmpSite (a.q, a.m) (b.q, b.m) ≠ 0 := fun e => k (by simpa using cmpSite3.eq _ _ e)
  rw [show lexC (cmpSite (b.p, b.n) (b.p, b.n)) _ = _ from if_pos (cmpSite3.refl _)]
  unfold lexC
  rw [if_neg hs]
  rfl
theorem lessE_kind {a b : Edge} (h : a.p = b.p ∧ a.n = b.n) (k : a.q = b.q ∧ a.m = b.m) (j : a.k ≠ b.k) : lessE a b = decide (a.k < b.k) := by
  unfold lessE ltOf
  rw [cmpE_lex, h.1, h.2, k.1, k.2]
  have hs : cmpI a.k b.k ≠ 0 := fun e => j (cmpI3.eq _ _ e)
  rw [show lexC (cmpSite (b.p, b.n) (b.p, b.n)) _ = _ from if_pos (cmpSite3.refl _), show lexC (cmpSite (b.q, b.m) (b.q, b.m)) _ = _ from if_pos (cmpSite3.refl _)]
  unfold lexC
  rw [if_neg hs, decide_eq_decide]
  unfold cmpI
  constructor
  · intro e
    by_cases f : a.k < b.k
    · exact f
    · rw [if_neg f] at e
      split at e <;> omega
  · intro e
    rw [if_pos e]
    omega
theorem lessE_flag {a b : Edge} (h : a.p = b.p ∧ a.n = b.n) (k : a.q = b.q ∧ a.m = b.m) (j : a.k = b.k) : lessE a b = (!a.v && b.v) := by
  unfold lessE ltOf
  rw [cmpE_lex, h.1, h.2, k.1, k.2, j]
  rw [show lexC (cmpSite (b.p, b.n) (b.p, b.n)) _ = _ from if_pos (cmpSite3.refl _), show lexC (cmpSite (b.q, b.m) (b.q, b.m)) _ = _ from if_pos (cmpSite3.refl _), show lexC (cmpI b.k b.k) _ = _ from if_pos (cmpI3.refl _)]
  cases a.v <;> cases b.v <;> rfl

theorem ne29 (x0 y0 : ByteArray) (x1 y1 : Int) (w : World) : Sem.run Tryz.prog (binOp .neq 37 (.agg #[.string x0, .int .i64 x1]) (.agg #[.string y0, .int .i64 y1])) w = .ok (.bool (!decide (x0 = y0 ∧ x1 = y1))) w := by
  rw [run_neq_struct, show (10000 : Nat) = 9998 + 2 from rfl, eqA29 9998 w x0 y0 x1 y1, toList_dec]
  have : (decide (x0 = y0) && (x1 == y1)) = decide (x0 = y0 ∧ x1 = y1) := by
    rw [Bool.eq_iff_iff]; simp
  rw [this]
  rfl
theorem eq29 (x0 y0 : ByteArray) (x1 y1 : Int) (w : World) : Sem.run Tryz.prog (binOp .eql 37 (.agg #[.string x0, .int .i64 x1]) (.agg #[.string y0, .int .i64 y1])) w = .ok (.bool (decide (x0 = y0 ∧ x1 = y1))) w := by
  rw [run_eql_struct, show (10000 : Nat) = 9998 + 2 from rfl, eqA29 9998 w x0 y0 x1 y1, toList_dec]
  have : (decide (x0 = y0) && (x1 == y1)) = decide (x0 = y0 ∧ x1 = y1) := by
    rw [Bool.eq_iff_iff]; simp
  rw [this]
  rfl

set_option maxRecDepth 100000 in
set_option maxHeartbeats 8000000 in
theorem less_calls (a b : Edge) (w : World) : Calls Tryz.prog 56 #[.agg (encE a).toArray, .agg (encE b).toArray] w fun e w' => e = .returned (.bool (lessE a b)) ∧ Gr w w' := by
  obtain ⟨p, n, q, m, k, v⟩ := a
  obtain ⟨p', n', q', m', k', v'⟩ := b
  show Calls Tryz.prog 56 #[.agg #[.string p, .int .i64 n, .string q, .int .i64 m, .int .i64 k, .bool v], .agg #[.string p', .int .i64 n', .string q', .int .i64 m', .int .i64 k', .bool v']] w _
  have hu29 := Tryz.underlying37
  have hu31 := Tryz.underlying39
  have hG := ((Gr.refl w).alloc (.cells #[.string p, .int .i64 n, .string q, .int .i64 m, .int .i64 k, .bool v] 39)).alloc (.cells #[.string p', .int .i64 n', .string q', .int .i64 m', .int .i64 k', .bool v'] 39)
  have e1 : (w.alloc (.cells #[.string p, .int .i64 n, .string q, .int .i64 m, .int .i64 k, .bool v] 39)).heap.size = w.heap.size + 1 := by simp
  have hn1 : ((w.alloc (.cells #[.string p, .int .i64 n, .string q, .int .i64 m, .int .i64 k, .bool v] 39)).alloc (.cells #[.string p', .int .i64 n', .string q', .int .i64 m', .int .i64 k', .bool v'] 39)).heap[w.heap.size]? = some (.cells #[.string p, .int .i64 n, .string q, .int .i64 m, .int .i64 k, .bool v] 39 (0, 0)) := (Below.heap_alloc _ _ _ (by rw [e1]; omega)).trans (heap_alloc_new w _)
  have hn2 : ((w.alloc (.cells #[.string p, .int .i64 n, .string q, .int .i64 m, .int .i64 k, .bool v] 39)).alloc (.cells #[.string p', .int .i64 n', .string q', .int .i64 m', .int .i64 k', .bool v'] 39)).heap[w.heap.size + 1]? = some (.cells #[.string p', .int .i64 n', .string q', .int .i64 m', .int .i64 k', .bool v'] 39 (0, 0)) := by rw [← e1]; exact heap_alloc_new _ _
  have x0 := (blk_cell hn1 0).trans (show (#[Value.string p, .int .i64 n, .string q, .int .i64 m, .int .i64 k, .bool v])[0]? = some (.string p) from rfl)
  have x1 := (blk_cell hn1 1).trans (show (#[Value.string p, .int .i64 n, .string q, .int .i64 m, .int .i64 k, .bool v])[1]? = some (.int .i64 n) from rfl)
  have x2 := (blk_cell hn1 2).trans (show (#[Value.string p, .int .i64 n, .string q, .int .i64 m, .int .i64 k, .bool v])[2]? = some (.string q) from rfl)
  have x3 := (blk_cell hn1 3).trans (show (#[Value.string p, .int .i64 n, .string q, .int .i64 m, .int .i64 k, .bool v])[3]? = some (.int .i64 m) from rfl)
  have x4 := (blk_cell hn1 4).trans (show (#[Value.string p, .int .i64 n, .string q, .int .i64 m, .int .i64 k, .bool v])[4]? = some (.int .i64 k) from rfl)
  have x5 := (blk_cell hn1 5).trans (show (#[Value.string p, .int .i64 n, .string q, .int .i64 m, .int .i64 k, .bool v])[5]? = some (.bool v) from rfl)
  have y0 := (blk_cell hn2 0).trans (show (#[Value.string p', .int .i64 n', .string q', .int .i64 m', .int .i64 k', .bool v'])[0]? = some (.string p') from rfl)
  have y1 := (blk_cell hn2 1).trans (show (#[Value.string p', .int .i64 n', .string q', .int .i64 m', .int .i64 k', .bool v'])[1]? = some (.int .i64 n') from rfl)
  have y2 := (blk_cell hn2 2).trans (show (#[Value.string p', .int .i64 n', .string q', .int .i64 m', .int .i64 k', .bool v'])[2]? = some (.string q') from rfl)
  have y3 := (blk_cell hn2 3).trans (show (#[Value.string p', .int .i64 n', .string q', .int .i64 m', .int .i64 k', .bool v'])[3]? = some (.int .i64 m') from rfl)
  have y4 := (blk_cell hn2 4).trans (show (#[Value.string p', .int .i64 n', .string q', .int .i64 m', .int .i64 k', .bool v'])[4]? = some (.int .i64 k') from rfl)
  have y5 := (blk_cell hn2 5).trans (show (#[Value.string p', .int .i64 n', .string q', .int .i64 m', .int .i64 k', .bool v'])[5]? = some (.bool v') from rfl)
  have HG := Aside0.mk hG
  clear hn1 hn2 hG
  rw [show w.heap.size + 1 = (w.alloc (.cells #[.string p, .int .i64 n, .string q, .int .i64 m, .int .i64 k, .bool v] 39)).heap.size from e1.symm] at y0 y1 y2 y3 y4 y5
  have hne := ne29
  by_cases c1 : p = p' ∧ n = n'
  · have d1 : decide (p = p' ∧ n = n') = true := decide_eq_true c1
    by_cases c2 : q = q' ∧ m = m'
    · have d2 : decide (q = q' ∧ m = m') = true := decide_eq_true c2
      by_cases c3 : k = k'
      · have HL := Aside0.mk (lessE_flag (a := ⟨p, n, q, m, k, v⟩) (b := ⟨p', n', q', m', k', v'⟩) c1 c2 c3)
        have n2 : (k == k') = true := by simpa using c3
        have n4 : (k != k') = false := by simpa using c3
        clear c1 c2 c3
        cases v <;> cases v' <;>
        · go_enter Tryz.func56, Tryz.ntmps56
          go_wp2_with fail
          go_ret
          exact ⟨by rw [HL.out]; rfl, HG.out⟩
      · have HL := Aside0.mk (lessE_kind (a := ⟨p, n, q, m, k, v⟩) (b := ⟨p', n', q', m', k', v'⟩) c1 c2 c3)
        have n2 : (k == k') = false := by simpa using c3
        have n4 : (k != k') = true := by simpa using c3
        clear c1 c2 c3
        go_enter Tryz.func56, Tryz.ntmps56
        go_wp2_with fail
        go_ret
        exact ⟨by rw [HL.out]; rfl, HG.out⟩
    · have d2 : decide (q = q' ∧ m = m') = false := decide_eq_false c2
      have HL := Aside0.mk (lessE_to (a := ⟨p, n, q, m, k, v⟩) (b := ⟨p', n', q', m', k', v'⟩) c1 c2)
      clear c1 c2
      go_enter Tryz.func56, Tryz.ntmps56
      go_wp2_with (go_at_call 40; refine (lessid_calls _ _ _ _ _).mono ?_; rintro e w3 ⟨rfl, hg3⟩)
      go_ret
      exact ⟨by rw [HL.out]; rfl, HG.out.trans hg3⟩
  · have d1 : decide (p = p' ∧ n = n') = false := decide_eq_false c1
    have HL := Aside0.mk (lessE_from (a := ⟨p, n, q, m, k, v⟩) (b := ⟨p', n', q', m', k', v'⟩) c1)
    clear c1
    go_enter Tryz.func56, Tryz.ntmps56
    go_wp2_with (go_at_call 40; refine (lessid_calls _ _ _ _ _).mono ?_; rintro e w3 ⟨rfl, hg3⟩)
    go_ret
    exact ⟨by rw [HL.out]; rfl, HG.out.trans hg3⟩
end Go.Proofs.YtknpkfjaffhejaaGreat
