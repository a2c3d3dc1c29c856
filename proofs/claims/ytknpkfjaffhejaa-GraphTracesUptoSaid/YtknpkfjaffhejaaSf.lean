/- WHAT IS PROVED: Safe tells whether there is no danger. -/
import Derived.Test.YtknpkfjaffhejaaDc
namespace Go.Proofs.Ytknpkfjaffhejaa
open Go.RowKit Go.Shelf Go.Proofs.YtknpkfjaffhejaaW.PrintWords Go.Proofs.YtknpkfjaffhejaaW.PrintLast Go.Proofs.YtknpkfjaffhejaaW.PrintMore
attribute [local go_sem] Oper.semAt_some
set_option linter.unusedVariables false
set_option linter.unusedSimpArgs false

theorem DgAt.form {n0 : Nat} {V : List Edge} {f : Value} {W : World} (h : DgAt n0 V f W) : ∃ b1 b3, f = .func (.func 30) #[] #[.pointer (some ⟨b1, 0, none⟩), .pointer (some ⟨b3, 0, none⟩)] := by
  obtain ⟨b1, b3, _, _, _, rfl, _⟩ := h
  exact ⟨b1, b3, rfl⟩
theorem vulE_ok {l : List Edge} (h : ∀ e ∈ l, okE e) : ∀ e ∈ vulE l, okE e := fun e he => h e (mem_vulE he).1
theorem kpE_b {n0 : Nat} {w : World} (W : World) (l : Nat) (o o' : Obj) (hl : w.heap.size ≤ l) (h : W.heap[l]? = some o) (hc : o.isCells = false) (_ : o.isWalk = false) : KpE n0 w.heap.size W (W.putObj l o') :=
  ⟨fun k _ hk => World.putObj_heap_other (by omega), fun k cs fr e => World.putObj_heap_other (fun e2 => by subst e2; rw [h] at e; injection e with e; subst e; cases hc)⟩

set_option maxRecDepth 100000 in
set_option maxHeartbeats 8000000 in
theorem safe_calls (W : World) (v : Value) (l : List Edge) {m0 : Nat} (h : EdR m0 W v l) (hn : l.length ≤ 1048576) (hs : ∀ e ∈ l, okE e) :
    Calls Try.prog 10 #[v] W fun e W' => e = .returned (.bool (decide (dangersE (vulE l) = []))) ∧ Below W.heap.size W W' := by
  have h' := h
  obtain ⟨A, c, rfl, _⟩ := h'
  have e1 : (W.alloc (.cells #[.bool false] 4)).heap.size = W.heap.size + 1 := by simp
  have hb1 := below_mk (Below.refl W.heap.size W) (.cells #[.bool false] 4)
  have HC := Aside0.mk (dangers0_calls (W.alloc (.cells #[.bool false] 4)) _ l (h.below hb1) hn (fun e he => (hs e he).1))
  have HB1 := Aside0.mk hb1
  have HN1 := Aside0.mk (heap_alloc_new W (.cells #[.bool false] 4))
  have HV := Aside0.mk (vulE_ok hs)
  have HVL : Aside0 ((vulE l).length ≤ 1048576) := ⟨Nat.le_trans (vulE_len l) hn⟩
  have HE1 := Aside0.mk e1
  clear h hb1 hs e1
  refine (callsIn_wide (n := 5)).1 ?_
  refine callsIn_of_wp_marks Try.func10 rfl trivial ?_ rfl
  simp only [Try.ntmps10, List.size_toArray, List.length_cons, List.length_nil, Nat.reduceAdd, Nat.reduceSub, Array.replicate_succ, Array.replicate_zero, List.push_toArray, List.append_toArray, List.nil_append, List.cons_append]
  gi_wp2_with fail
  refine ⟨trivial, (callsIn_wide.2 HC.out).mono ?_⟩
  rintro e U ⟨hbU, f, rfl, hD⟩
  obtain ⟨b1, b3, rfl⟩ := hD.form
  have hE := HE1.out
  rw [hE] at hbU hD
  have hnU := (hbU.block W.heap.size (by omega)).trans HN1.out
  have hB0 : Below W.heap.size W U := HB1.out.trans (hbU.mono (by omega))
  have hlt := blk_lt hnU
  have HD := Aside0.mk hD
  have HB0 := Aside0.mk hB0
  have HNU := Aside0.mk hnU
  clear hbU hD hnU hB0 HB1 HN1
  gi_wp2_with fail
  refine wpIn_rangeFunc_ownG (F := Fence.wide) rfl (by omega) (gf := 30) (lb := #[.pointer (some ⟨b1, 0, none⟩), .pointer (some ⟨b3, 0, none⟩)]) rfl trivial (enters_of Try.func30 (by kernel_rfl) rfl)
    (dg_stops HD.out HV.out HVL.out _) KpE.trans kpE_b (Below.refl _ _) (fun _ => rfl)
    (fun pre W' => (pre = [] ∧ W'.cell? ⟨W.heap.size, 0, none⟩ = some (.bool false) ∧ W'.frozen? ⟨W.heap.size, 0, none⟩ = false) ∧ Below W.heap.size W W')
    (fun c pre W' => (c = .ret ∧ pre ≠ [] ∧ W'.cell? ⟨W.heap.size, 0, none⟩ = some (.bool false)) ∧ Below W.heap.size W W')
    ?hI ?hIx ?h0 (fun x => { tmps := #[Value.slice A l.length c, undef, .pointer (some ⟨W.heap.size, 0, none⟩), .slice A l.length c, .func (.func 30) #[] #[.pointer (some ⟨b1, 0, none⟩), .pointer (some ⟨b3, 0, none⟩)], .agg (encD x.1).toArray], defers := [] }) ?assign ?body ?done ?stop
  case hI =>
    refine OwnFrom.and (fun s A B row hs hg hr => ?_) (ownFrom_below (Nat.le_refl _) (by omega))
    obtain ⟨a0, a1, a2⟩ := hs
    exact ⟨a0, cell_kept a1 hg (fun r e => (hr r e).2), (frozen_kept a1 hg (fun r e => (hr r e).2)).trans a2⟩
  case hIx =>
    refine fun c => OwnFrom.and (fun s A B row hs hg hr => ?_) (ownFrom_below (Nat.le_refl _) (by omega))
    obtain ⟨e, a0, a1⟩ := hs
    exact ⟨e, a0, cell_kept a1 hg (fun r e => (hr r e).2)⟩
  case h0 => exact ⟨⟨rfl, (blk_cell HNU.out 0).trans rfl, blk_frozen HNU.out 0⟩, HB0.out⟩
  case assign =>
    intro l x W K hK
    gi_wp2_with fail
    simpa using hK
  case body =>
    rintro lp pre x W2 ⟨⟨rfl, a1, a2⟩, hB⟩ hlen
    have HB := Aside0.mk hB
    clear hB hlen
    gi_wp2_with fail
    exact ⟨(KeepsOthers.setCell _ _ _).from _, ⟨rfl, by simp, World.cell?_setCell_same' _ _ _ (by rw [a1]; rfl)⟩, HB.out.setCell (p := ⟨W.heap.size, 0, none⟩) (Nat.le_refl _) _⟩
  case done =>
    rintro D ys W2 hD hys ⟨⟨rfl, a1, a2⟩, hB⟩ hK
    have HY : Aside0 (dangersE (vulE l) = []) := ⟨hys.symm⟩
    clear hys
    gi_wp2_with fail
    have hK' := (KeepsOthers.setCell W2 ⟨W.heap.size, 0, none⟩ (.bool true)).same D _ hK rfl
    refine ⟨by simp, .inl ⟨_, _, rfl, run_takeDeferred hK', ?_⟩⟩
    have hc5 := cell_kept (World.cell?_setCell_same' W2 ⟨W.heap.size, 0, none⟩ (.bool true) (by rw [a1]; rfl)) (grownBy_putObj' _ D (.deferred none)) (fun r e => by cases e; exact ⟨_, hK', rfl⟩)
    refine ⟨.bool true, ?_, by rw [HY.out]; rfl, (hB.setCell (p := ⟨W.heap.size, 0, none⟩) (Nat.le_refl _) _).trans (belowK_b (w := W) (Nat.le_refl _) _ D _ _ (by omega) hK' rfl rfl)⟩
    simp [results, Try.f10, go_sem, hc5]
  case stop =>
    rintro D c pre W2 hD hpre ⟨⟨rfl, hne, a1⟩, hB⟩ hK
    have HY : Aside0 (dangersE (vulE l) ≠ []) := ⟨fun e => by
      rw [e, List.prefix_nil, List.map_eq_nil_iff] at hpre
      exact hne hpre⟩
    clear hpre hne
    gi_wp2_with fail
    refine ⟨by simp, .inl ⟨_, _, rfl, run_takeDeferred hK, ?_⟩⟩
    have hc5 := cell_kept a1 (grownBy_putObj' _ D (.deferred none)) (fun r e => by cases e; exact ⟨_, hK, rfl⟩)
    refine ⟨.bool false, ?_, by rw [decide_eq_false HY.out], hB.trans (belowK_b (w := W) (Nat.le_refl _) W2 D _ _ (by omega) hK rfl rfl)⟩
    simp [results, Try.f10, go_sem, hc5]
end Go.Proofs.Ytknpkfjaffhejaa
