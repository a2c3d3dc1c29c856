/- WHAT IS PROVED: the program's comparisons of sites and of edges. -/
import Derived.Test.YtknpkfjaffhejaaGreatOr
import Derived.Sort.Grow
namespace Go.Proofs.YtknpkfjaffhejaaGreat
open Go.RowKit Go.Proofs.YtknpkfjaffhejaaGreatW.PrintWords Go.Proofs.YtknpkfjaffhejaaGreatW.PrintLast Go.Proofs.YtknpkfjaffhejaaGreatW.PrintMore
set_option linter.unusedVariables false
set_option linter.unusedSimpArgs false

/-- Nothing but draws and new blocks. -/
def Gr (w w' : World) : Prop := ∃ q os, w' = Sort.grow (w.drewN q) os
theorem Gr.refl (w : World) : Gr w w := ⟨0, #[], by rw [Sort.grow_empty]; rfl⟩
theorem Gr.trans {a b c : World} (h : Gr a b) (k : Gr b c) : Gr a c := by
  obtain ⟨q, os, rfl⟩ := h
  obtain ⟨r, os', rfl⟩ := k
  refine ⟨q + r, os ++ os', ?_⟩
  simp only [Sort.grow, World.drewN, Array.append_assoc, Nat.add_assoc]
theorem Gr.alloc {a b : World} (h : Gr a b) (o : Obj) : Gr a (b.alloc o) := h.trans ⟨0, #[o], Sort.alloc_eq_grow b o⟩
theorem Gr.drew {a b : World} (h : Gr a b) : Gr a b.drew := h.trans ⟨1, #[], by rw [Sort.grow_empty]; rfl⟩
theorem Gr.drewN {a b : World} (h : Gr a b) (n : Nat) : Gr a (b.drewN n) := h.trans ⟨n, #[], by rw [Sort.grow_empty]⟩
theorem Gr.below {a b : World} (h : Gr a b) : Below a.heap.size a b := by
  obtain ⟨q, os, rfl⟩ := h
  refine ⟨rfl, rfl, rfl, by simp [Sort.grow, World.drewN], fun k hk => ?_⟩
  simp [Sort.grow, World.drewN, Array.getElem?_append_left hk]

def cmpS (a b : ByteArray) : Int := if blt a b then -1 else if blt b a then 1 else 0
def cmpI (a b : Int) : Int := if a < b then -1 else if b < a then 1 else 0

theorem run_gtr (x y : ByteArray) (W : World) : Sem.run Tryz.prog (binOp .gtr 9 (.string x) (.string y)) W = .ok (.bool (!(Op.bytesLess x.toList y.toList || x.toList == y.toList))) W := by rfl

theorem cmpS_calls (a b : ByteArray) (w : World) : Calls Tryz.prog 37 #[.string a, .string b] w fun e w' => e = .returned (.int .i64 (cmpS a b)) ∧ w' = w := by
  unfold cmpS
  have hgt := run_gtr
  cases h1 : blt a b with
  | true =>
    have h1' : Op.bytesLess a.toList b.toList = true := h1
    go_enter Tryz.func37, Tryz.ntmps37
    go_wp2
    go_ret
    exact ⟨rfl, rfl⟩
  | false =>
    have h1' : Op.bytesLess a.toList b.toList = false := h1
    cases h2 : blt b a with
    | true =>
      have h2' : (a.toList == b.toList) = false := by
        have : a.toList ≠ b.toList := fun e => by
          have h2b : Op.bytesLess b.toList a.toList = true := h2
          rw [e, bl_irrefl] at h2b
          cases h2b
        simpa using this
      go_enter Tryz.func37, Tryz.ntmps37
      go_wp2
      go_ret
      exact ⟨rfl, rfl⟩
    | false =>
      have h2' : (a.toList == b.toList) = true := by
        have := blt_tri h1 h2
        rw [this]
        simp
      go_enter Tryz.func37, Tryz.ntmps37
      go_wp2
      go_ret
      exact ⟨rfl, rfl⟩

theorem cmpI_calls (a b : Int) (w : World) : Calls Tryz.prog 38 #[.int .i64 a, .int .i64 b] w fun e w' => e = .returned (.int .i64 (cmpI a b)) ∧ w' = w := by
  unfold cmpI
  by_cases h1 : a < b
  · rw [if_pos h1]
    have h1' : decide (a < b) = true := decide_eq_true h1
    go_enter Tryz.func38, Tryz.ntmps38
    go_wp2
    go_ret
    exact ⟨rfl, rfl⟩
  · rw [if_neg h1]
    have h1' : decide (a < b) = false := decide_eq_false h1
    by_cases h2 : b < a
    · rw [if_pos h2]
      have h2' : decide (b < a) = true := decide_eq_true h2
      go_enter Tryz.func38, Tryz.ntmps38
      go_wp2
      go_ret
      exact ⟨rfl, rfl⟩
    · rw [if_neg h2]
      have h2' : decide (b < a) = false := decide_eq_false h2
      go_enter Tryz.func38, Tryz.ntmps38
      go_wp2
      go_ret
      exact ⟨rfl, rfl⟩

/-- The first that is not 0. -/
def orI : List Int → Int
  | [] => 0
  | x :: l => if x = 0 then orI l else x

theorem or_calls (A : Option Addr) (c : Nat) (l : List Int) (w : World) (hl : l.length < 1000) (hA : ∀ i (h : i < l.length), ∃ ad, A = some ad ∧ w.cell? (ad.add i) = some (.int .i64 l[i])) :
    Calls Tryz.prog 36 #[.slice A l.length c] w fun e w' => e = .returned (.int .i64 (orI l)) ∧ w' = w := by
  have HA := Aside0.mk hA
  clear hA
  go_enter Tryz.func36, Tryz.ntmps36
  go_wp2
  go_loopw [2, 8] (fun v2 v W => v2 = .int .i64 0 ∧ W = w ∧ ∃ i : Nat, v = .int .i64 (i : Nat) ∧ i ≤ l.length ∧ Aside0 (orI (l.drop i) = orI l)) (fun _ v W => l.length - (RowKit.intOf v).toNat)
  case atStart => exact ⟨rfl, rfl, 0, rfl, Nat.zero_le _, ⟨by rw [List.drop_zero]⟩⟩
  case round =>
    obtain ⟨rfl, rfl, i, rfl, hi, ⟨ho⟩⟩ := hrel
    by_cases hlt : i < l.length
    · have b1 : decide (((i : Nat) : Int) < ((l.length : Nat) : Int)) = true := decide_eq_true (by omega)
      have p0 : ((0 : Int) ≤ ((i : Nat) : Int)) = True := eq_true (by omega)
      have p1 : (((i : Nat) : Int) < ((l.length : Nat) : Int)) = True := eq_true (by omega)
      obtain ⟨ad, rfl, hcell⟩ := HA.out i hlt
      rw [List.drop_eq_getElem_cons hlt] at ho
      have HO := Aside0.mk ho
      clear ho
      generalize l[i] = x at *
      by_cases hx : x = 0
      · subst hx
        go_wp2
        go_roundw
        case measure => show l.length - (i + 1) < l.length - i; omega
        case rel => exact ⟨rfl, by first | rfl | trivial, i + 1, by first | rfl | (simp; done) | (congr 1), by omega, ⟨by have := HO.out; rw [show orI (0 :: l.drop (i + 1)) = orI (l.drop (i + 1)) from if_pos rfl] at this; exact this⟩⟩
      · have n1 : decide (x = 0) = false := decide_eq_false hx
        have n2 : (x == 0) = false := by simpa using hx
        have n3 : (x = 0) = False := eq_false hx
        have n4 : (x != 0) = true := by simpa using hx
        go_wp2
        go_ret
        exact ⟨by have := HO.out; rw [show orI (x :: l.drop (i + 1)) = x from if_neg hx] at this; rw [← this]; rfl, rfl⟩
    · have b1 : decide (((i : Nat) : Int) < ((l.length : Nat) : Int)) = false := decide_eq_false (by omega)
      rw [List.drop_eq_nil_of_le (by omega)] at ho
      have HO := Aside0.mk ho
      clear ho
      go_wp2
      go_ret
      exact ⟨by rw [← HO.out]; rfl, rfl⟩

/-- Two sites held against each other. -/
def cmpId (p : ByteArray) (n : Int) (q : ByteArray) (m : Int) : Int := orI [cmpS p q, cmpI n m]

set_option maxRecDepth 100000 in
set_option maxHeartbeats 4000000 in
theorem ids_calls (p : ByteArray) (n : Int) (q : ByteArray) (m : Int) (w : World) : Calls Tryz.prog 23 #[.agg #[.string p, .int .i64 n], .agg #[.string q, .int .i64 m]] w fun e w' => e = .returned (.int .i64 (cmpId p n q m)) ∧ Gr w w' := by
  unfold cmpId
  have hu29 := Tryz.underlying37
  have hG := ((Gr.refl w).alloc (.cells #[.string p, .int .i64 n] 37)).alloc (.cells #[.string q, .int .i64 m] 37)
  have e1 : (w.alloc (.cells #[.string p, .int .i64 n] 37)).heap.size = w.heap.size + 1 := by simp
  have hn1 : ((w.alloc (.cells #[.string p, .int .i64 n] 37)).alloc (.cells #[.string q, .int .i64 m] 37)).heap[w.heap.size]? = some (.cells #[.string p, .int .i64 n] 37 (0, 0)) := (Below.heap_alloc _ _ _ (by rw [e1]; omega)).trans (heap_alloc_new w _)
  have hn2 : ((w.alloc (.cells #[.string p, .int .i64 n] 37)).alloc (.cells #[.string q, .int .i64 m] 37)).heap[w.heap.size + 1]? = some (.cells #[.string q, .int .i64 m] 37 (0, 0)) := by rw [← e1]; exact heap_alloc_new _ _
  have x0 := (blk_cell hn1 0).trans (show (#[Value.string p, .int .i64 n])[0]? = some (.string p) from rfl)
  have x1 := (blk_cell hn1 1).trans (show (#[Value.string p, .int .i64 n])[1]? = some (.int .i64 n) from rfl)
  have y0 := (blk_cell hn2 0).trans (show (#[Value.string q, .int .i64 m])[0]? = some (.string q) from rfl)
  have y1 := (blk_cell hn2 1).trans (show (#[Value.string q, .int .i64 m])[1]? = some (.int .i64 m) from rfl)
  have HG := Aside0.mk hG
  clear e1 hn1 hn2 hG
  go_enter Tryz.func23, Tryz.ntmps23
  go_wp2_with fail
  generalize (w.alloc (.cells #[.string p, .int .i64 n] 37)).alloc (.cells #[.string q, .int .i64 m] 37) = W at *
  refine wp_region_still_tail 10 (by kernel_rfl) (by kernel_rfl) ?_
  simp only [List.take_succ_cons, List.take_zero, List.drop_succ_cons, List.drop_zero]
  repeat still_step
  still_call (cmpS_calls _ _ _)
  repeat still_step
  still_call (cmpI_calls _ _ _)
  refine wpStill_nil ?_
  change wpList _ _ _ _ _ W.drew
  have HG2 := Aside0.mk HG.out.drew
  clear x0 x1 y0 y1 HG
  generalize W.drew = W2 at *
  generalize hc1 : cmpS p q = c1 at *
  generalize hc2 : cmpI n m = c2 at *
  have HC := Aside0.mk (And.intro hc1 hc2)
  clear hc1 hc2
  have hn3 := heap_alloc_new W2 (.cells #[.int .i64 c1, .int .i64 c2] 3)
  have HOR := Aside0.mk (or_calls (some ⟨W2.heap.size, 0, none⟩) 2 [c1, c2] (W2.alloc (.cells #[.int .i64 c1, .int .i64 c2] 3)) (by simp) (fun i h => ⟨_, rfl, by
    have hi : i = 0 ∨ i = 1 := by simp at h; omega
    rcases hi with rfl | rfl
    · exact (blk_cell hn3 0).trans rfl
    · exact (blk_cell hn3 1).trans rfl⟩))
  have HG3 := Aside0.mk (HG2.out.alloc (.cells #[.int .i64 c1, .int .i64 c2] 3))
  clear hn3 HG2
  go_wp2_with fail
  refine HOR.out.mono ?_
  rintro e w' ⟨rfl, rfl⟩
  go_wp2_with fail
  go_ret
  exact ⟨by rw [HC.out.1, HC.out.2]; rfl, HG3.out⟩

/-- An edge: its cells. -/
structure Edge where
  p : ByteArray
  n : Int
  q : ByteArray
  m : Int
  k : Int
  v : Bool
instance : Inhabited Edge := ⟨⟨⟨#[]⟩, 0, ⟨#[]⟩, 0, 0, false⟩⟩
def encE (e : Edge) : List Value := [.string e.p, .int .i64 e.n, .string e.q, .int .i64 e.m, .int .i64 e.k, .bool e.v]

/-- Two edges held against each other. -/
def cmpE (a b : Edge) : Int :=
  if orI [cmpId a.p a.n b.p b.n, cmpId a.q a.m b.q b.m, cmpI a.k b.k] ≠ 0 ∨ a.v = b.v then orI [cmpId a.p a.n b.p b.n, cmpId a.q a.m b.q b.m, cmpI a.k b.k] else if b.v then -1 else 1

set_option maxRecDepth 100000 in
set_option maxHeartbeats 8000000 in
theorem compare_calls (a b : Edge) (w : World) : Calls Tryz.prog 60 #[.agg (encE a).toArray, .agg (encE b).toArray] w fun e w' => e = .returned (.int .i64 (cmpE a b)) ∧ Gr w w' := by
  obtain ⟨p, n, q, m, k, v⟩ := a
  obtain ⟨p', n', q', m', k', v'⟩ := b
  show Calls Tryz.prog 60 #[.agg #[.string p, .int .i64 n, .string q, .int .i64 m, .int .i64 k, .bool v], .agg #[.string p', .int .i64 n', .string q', .int .i64 m', .int .i64 k', .bool v']] w _
  have hu29 := Tryz.underlying37
  have hu31 := Tryz.underlying39
  have hG := ((Gr.refl w).alloc (.cells #[.string p, .int .i64 n, .string q, .int .i64 m, .int .i64 k, .bool v] 39)).alloc (.cells #[.string p', .int .i64 n', .string q', .int .i64 m', .int .i64 k', .bool v'] 39)
  have e1 : (w.alloc (.cells #[.string p, .int .i64 n, .string q, .int .i64 m, .int .i64 k, .bool v] 39)).heap.size = w.heap.size + 1 := by simp
  have hn1 : ((w.alloc (.cells #[.string p, .int .i64 n, .string q, .int .i64 m, .int .i64 k, .bool v] 39)).alloc (.cells #[.string p', .int .i64 n', .string q', .int .i64 m', .int .i64 k', .bool v'] 39)).heap[w.heap.size]? = some (.cells #[.string p, .int .i64 n, .string q, .int .i64 m, .int .i64 k, .bool v] 39 (0, 0)) := (Below.heap_alloc _ _ _ (by rw [e1]; omega)).trans (heap_alloc_new w _)
  have hn2 : ((w.alloc (.cells #[.string p, .int .i64 n, .string q, .int .i64 m, .int .i64 k, .bool v] 39)).alloc (.cells #[.string p', .int .i64 n', .string q', .int .i64 m', .int .i64 k', .bool v'] 39)).heap[w.heap.size + 1]? = some (.cells #[.string p', .int .i64 n', .string q', .int .i64 m', .int .i64 k', .bool v'] 39 (0, 0)) := by rw [← e1]; exact heap_alloc_new _ _
  have HG := Aside0.mk (And.intro hG (And.intro hn1 hn2))
  clear e1 hn1 hn2 hG
  go_enter Tryz.func60, Tryz.ntmps60
  go_wp2_with fail
  generalize (w.alloc (.cells #[.string p, .int .i64 n, .string q, .int .i64 m, .int .i64 k, .bool v] 39)).alloc (.cells #[.string p', .int .i64 n', .string q', .int .i64 m', .int .i64 k', .bool v'] 39) = W at *
  obtain ⟨hG, hn1, hn2⟩ := HG.out
  have HSK : Aside0 (∀ W', Gr W W' → ((W'.cell? ⟨w.heap.size, 0, none⟩ = some (.string p) ∧ W'.cell? ⟨w.heap.size, 1, none⟩ = some (.int .i64 n) ∧ W'.cell? ⟨w.heap.size, 2, none⟩ = some (.string q) ∧ W'.cell? ⟨w.heap.size, 3, none⟩ = some (.int .i64 m) ∧ W'.cell? ⟨w.heap.size, 4, none⟩ = some (.int .i64 k) ∧ W'.cell? ⟨w.heap.size, 5, none⟩ = some (.bool v)) ∧
      (W'.cell? ⟨w.heap.size + 1, 0, none⟩ = some (.string p') ∧ W'.cell? ⟨w.heap.size + 1, 1, none⟩ = some (.int .i64 n') ∧ W'.cell? ⟨w.heap.size + 1, 2, none⟩ = some (.string q') ∧ W'.cell? ⟨w.heap.size + 1, 3, none⟩ = some (.int .i64 m') ∧ W'.cell? ⟨w.heap.size + 1, 4, none⟩ = some (.int .i64 k') ∧ W'.cell? ⟨w.heap.size + 1, 5, none⟩ = some (.bool v'))) ∧ Gr W W') := ⟨fun W' hg => by
    have hb := hg.below
    have k1 := (hb.block _ (blk_lt hn1)).trans hn1
    have k2 := (hb.block _ (blk_lt hn2)).trans hn2
    exact ⟨⟨⟨(blk_cell k1 0).trans rfl, (blk_cell k1 1).trans rfl, (blk_cell k1 2).trans rfl, (blk_cell k1 3).trans rfl, (blk_cell k1 4).trans rfl, (blk_cell k1 5).trans rfl⟩, ⟨(blk_cell k2 0).trans rfl, (blk_cell k2 1).trans rfl, (blk_cell k2 2).trans rfl, (blk_cell k2 3).trans rfl, (blk_cell k2 4).trans rfl, (blk_cell k2 5).trans rfl⟩⟩, hg⟩⟩
  obtain ⟨⟨⟨x0, x1, x2, x3, x4, x5⟩, ⟨y0, y1, y2, y3, y4, y5⟩⟩, _⟩ := HSK.out W (Gr.refl _)
  have HOR : Aside0 (∀ (c1 c2 c3 : Int) (W2 : World), Calls Tryz.prog 36 #[.slice (some ⟨W2.heap.size, 0, none⟩) 3 3] (W2.alloc (.cells #[.int .i64 c1, .int .i64 c2, .int .i64 c3] 3)) fun e w' => e = .returned (.int .i64 (orI [c1, c2, c3])) ∧ w' = W2.alloc (.cells #[.int .i64 c1, .int .i64 c2, .int .i64 c3] 3)) := ⟨fun c1 c2 c3 W2 => by
    have hn3 := heap_alloc_new W2 (.cells #[.int .i64 c1, .int .i64 c2, .int .i64 c3] 3)
    exact or_calls (some ⟨W2.heap.size, 0, none⟩) 3 [c1, c2, c3] _ (by simp) (fun i h => ⟨_, rfl, by
      have hi : i = 0 ∨ i = 1 ∨ i = 2 := by simp at h; omega
      rcases hi with rfl | rfl | rfl
      · exact (blk_cell hn3 0).trans rfl
      · exact (blk_cell hn3 1).trans rfl
      · exact (blk_cell hn3 2).trans rfl⟩)⟩
  clear hn1 hn2
  go_region_held3 (fun W' => ((W'.cell? ⟨w.heap.size, 0, none⟩ = some (.string p) ∧ W'.cell? ⟨w.heap.size, 1, none⟩ = some (.int .i64 n) ∧ W'.cell? ⟨w.heap.size, 2, none⟩ = some (.string q) ∧ W'.cell? ⟨w.heap.size, 3, none⟩ = some (.int .i64 m) ∧ W'.cell? ⟨w.heap.size, 4, none⟩ = some (.int .i64 k) ∧ W'.cell? ⟨w.heap.size, 5, none⟩ = some (.bool v)) ∧
      (W'.cell? ⟨w.heap.size + 1, 0, none⟩ = some (.string p') ∧ W'.cell? ⟨w.heap.size + 1, 1, none⟩ = some (.int .i64 n') ∧ W'.cell? ⟨w.heap.size + 1, 2, none⟩ = some (.string q') ∧ W'.cell? ⟨w.heap.size + 1, 3, none⟩ = some (.int .i64 m') ∧ W'.cell? ⟨w.heap.size + 1, 4, none⟩ = some (.int .i64 k') ∧ W'.cell? ⟨w.heap.size + 1, 5, none⟩ = some (.bool v'))) ∧ Gr W W') (exact HSK.out _ (by repeat (first | assumption | exact Gr.refl _ | refine Gr.drew ?_ | refine Gr.alloc ?_ _))) (first | (go_at_call 23; refine (ids_calls _ _ _ _ _).mono ?_; rintro e w3 ⟨rfl, hg3⟩; have hq3 := Gr.trans (And.right (by assumption)) hg3) | (go_at_call 38; refine (cmpI_calls _ _ _).mono ?_; rintro e w3 ⟨rfl, rfl⟩) | (go_at_call 36; refine (HOR.out _ _ _ _).mono ?_; rintro e w3 ⟨rfl, rfl⟩))
  rename_i hlast
  obtain ⟨⟨⟨x0, x1, x2, x3, x4, x5⟩, ⟨y0, y1, y2, y3, y4, y5⟩⟩, hgr⟩ := hlast
  have HG4 := Aside0.mk (hG.trans hgr)
  clear hgr hG HSK HOR
  generalize hW5 : (World.alloc _ (Obj.cells #[Value.int IntKind.i64 (cmpId p n p' n'), Value.int IntKind.i64 (cmpId q m q' m'), Value.int IntKind.i64 (cmpI k k')] 3)) = W5 at *
  clear hW5
  have hE : Aside0 (cmpE ⟨p, n, q, m, k, v⟩ ⟨p', n', q', m', k', v'⟩ = if orI [cmpId p n p' n', cmpId q m q' m', cmpI k k'] ≠ 0 ∨ v = v' then orI [cmpId p n p' n', cmpId q m q' m', cmpI k k'] else if v' then -1 else 1) := ⟨rfl⟩
  generalize orI [cmpId p n p' n', cmpId q m q' m', cmpI k k'] = c at *
  by_cases hc : c = 0
  · subst hc
    cases v <;> cases v' <;>
    · go_wp2_with fail
      go_ret
      exact ⟨by rw [hE.out]; rfl, HG4.out⟩
  · have n1 : decide (c = 0) = false := decide_eq_false hc
    have n2 : (c == 0) = false := by simpa using hc
    have n3 : (c = 0) = False := eq_false hc
    have n4 : (c != 0) = true := by simpa using hc
    go_wp2_with fail
    go_ret
    exact ⟨by rw [hE.out, if_pos (Or.inl hc)]; rfl, HG4.out⟩
end Go.Proofs.YtknpkfjaffhejaaGreat
