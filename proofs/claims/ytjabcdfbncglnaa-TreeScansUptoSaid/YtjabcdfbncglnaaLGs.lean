/- WHAT IS PROVED: goes tells that a scan of a tree gives just the document's pairs, as far as it is asked. -/
import Derived.Test.YtjabcdfbncglnaaLIt
namespace Go.Proofs.Ytjabcdfbncglnaa
open Go.RowKit Go.Shelf Go.Proofs.YtjabcdfbncglnaaW.PrintWords Go.Proofs.YtjabcdfbncglnaaW.PrintLast Go.Proofs.YtjabcdfbncglnaaW.PrintMore
open PTreeRanks (S59 k59 z59)
attribute [local go_sem] Oper.semAt_some
set_option linter.unusedVariables false
set_option linter.unusedSimpArgs false

/-- What goes has laid: its four boxes (the number asked for, its answer, what is wanted, the number so far). -/
def GoesAt (q r q2 : Nat) (most : Int) (want : List S59) (Aw : Option Addr) (cw : Nat) (n0 : Nat) (w : World) (ans : Bool) (k : Nat) (W : World) : Prop :=
  (W.cell? ⟨q, 0, none⟩ = some (.int .i64 most) ∧ W.cell? ⟨r, 0, none⟩ = some (.bool ans) ∧ W.frozen? ⟨r, 0, none⟩ = false ∧ W.cell? ⟨q2, 0, none⟩ = some (.slice Aw want.length cw) ∧ W.cell? ⟨q2 + 1, 0, none⟩ = some (.int .i64 (k : Nat)) ∧ W.frozen? ⟨q2 + 1, 0, none⟩ = false)

def GoesX (r : Nat) (want pre : List S59) (W : World) : Prop := ∃ ans, W.cell? ⟨r, 0, none⟩ = some (.bool ans) ∧ (pre <+: want → ans = true)
theorem goes_step {q r q2 : Nat} {most : Int} {want : List S59} {Aw : Option Addr} {cw n0 : Nat} {w : World} {ans : Bool} {k : Nat} {W : World} (h : GoesAt q r q2 most want Aw cw n0 w ans k W) (hq : q2 + 1 ≠ q) (hr : q2 + 1 ≠ r) :
    GoesAt q r q2 most want Aw cw n0 w ans (k + 1) (W.setCell ⟨q2 + 1, 0, none⟩ (.int .i64 ((k : Nat) + 1))) := by
  obtain ⟨a0, a1, a2, a3, a4, a5⟩ := h
  refine ⟨(World.cell?_setCell_far W ⟨q2 + 1, 0, none⟩ ⟨q, 0, none⟩ _ hq).trans a0, (World.cell?_setCell_far W ⟨q2 + 1, 0, none⟩ ⟨r, 0, none⟩ _ hr).trans a1, by rw [World.frozen?_setCell]; exact a2, (World.cell?_setCell_far W ⟨q2 + 1, 0, none⟩ ⟨q2, 0, none⟩ _ (show q2 + 1 ≠ q2 by omega)).trans a3, ?_, by rw [World.frozen?_setCell]; exact a5⟩
  have := World.cell?_setCell_same' W ⟨q2 + 1, 0, none⟩ (.int .i64 ((k : Nat) + 1)) (by rw [a4]; rfl)
  exact this

set_option maxRecDepth 100000 in
set_option maxHeartbeats 8000000 in
theorem goes_calls {order bt : Nat} {l : List S59} {ok : Nat → Prop} {w : World} (hT : TG order l ok bt w) (hl : l.length ≤ 1073741824) {A : Option Addr} {c : Nat} (hC : Kd.C k59 w A l.length l) (hc : l.length ≤ c) (f u : ByteArray) (most : Int) :
    Calls Try.prog 40 #[.pointer (some ⟨bt, 0, none⟩), .slice A l.length c, .string f, .string u, .int .i64 most] w fun e w' => e = .returned (.bool true) ∧ Below w.heap.size w w' := by
  have hT' := hT.imp (ok' := fun k => ok k ∧ k < w.heap.size) (fun k hk hlt => ⟨hk, hlt⟩)
  have hbl := hT.lt
  clear hT
  have e1 : (w.alloc (.cells #[.int .i64 most] 3)).heap.size = w.heap.size + 1 := by simp
  have e2 : ((w.alloc (.cells #[.int .i64 most] 3)).alloc (.cells #[.bool false] 4)).heap.size = w.heap.size + 2 := by simp
  have hb1 := below_mk (below_mk (Below.refl w.heap.size w) (.cells #[.int .i64 most] 3)) (.cells #[.bool false] 4)
  have hn0 : ((w.alloc (.cells #[.int .i64 most] 3)).alloc (.cells #[.bool false] 4)).heap[w.heap.size]? = some (.cells #[.int .i64 most] 3 (0, 0)) := (Below.heap_alloc _ _ _ (by rw [e1]; omega)).trans (heap_alloc_new w _)
  have hn1 : ((w.alloc (.cells #[.int .i64 most] 3)).alloc (.cells #[.bool false] 4)).heap[w.heap.size + 1]? = some (.cells #[.bool false] 4 (0, 0)) := by rw [← e1]; exact heap_alloc_new _ _
  obtain ⟨want, hwant⟩ : ∃ want, scanL f u l = want := ⟨_, rfl⟩
  have hrs := refScan (l := l) f u (by omega)
  have hwl := scanL_length f u l
  rw [hwant] at hrs hwl
  have HWANT := Aside0.mk hwant
  clear hwant
  have HSC := Aside0.mk (PTreeRanks.keystoneref05_Scan.calls (l.length + 1) A c l f u _ ((w.alloc (.cells #[.int .i64 most] 3)).alloc (.cells #[.bool false] 4)) (Kd.C_below hC hb1) hc hrs)
  have HT := Aside0.mk (hT'.below hb1)
  have HB1 := Aside0.mk hb1
  have HN0 := Aside0.mk hn0
  have HN1 := Aside0.mk hn1
  have HE2 := Aside0.mk e2
  clear hrs hT' hC hb1 hn0 hn1 e1 e2
  refine (callsIn_wide (n := 5)).1 ?_
  refine callsIn_of_wp_marks Try.func40 rfl trivial ?_ rfl
  simp only [Try.ntmps40, List.size_toArray, List.length_cons, List.length_nil, Nat.reduceAdd, Nat.reduceSub, Array.replicate_succ, Array.replicate_zero, List.push_toArray, List.append_toArray, List.nil_append, List.cons_append]
  gi_wp2_with fail
  refine ⟨trivial, (callsIn_wide.2 HSC.out).mono ?_⟩
  rintro e w2 ⟨vw, rfl, hR2, hB2⟩
  obtain ⟨Aw, cw, rfl, hcw, _⟩ := Kd.R_reads hR2
  have hRw : k59.R 59 w2 0 (fun k => k < w2.heap.size) (.slice Aw want.length cw) want := Kd.R_lower (Kd.R_mono (Kd.R_bound hR2) (fun k hk => hk.2.2.1)) (Nat.zero_le _)
  have hs2 := hB2.size
  rw [HE2.out] at hs2
  have e3 : (w2.alloc (.cells #[.slice Aw want.length cw] 25)).heap.size = w2.heap.size + 1 := by simp
  have e4 : ((w2.alloc (.cells #[.slice Aw want.length cw] 25)).alloc (.cells #[.int .i64 0] 3)).heap.size = w2.heap.size + 2 := by simp
  have hb4 := below_mk (below_mk (Below.refl w2.heap.size w2) (.cells #[.slice Aw want.length cw] 25)) (.cells #[.int .i64 0] 3)
  have hq2 : ((w2.alloc (.cells #[.slice Aw want.length cw] 25)).alloc (.cells #[.int .i64 0] 3)).heap[w2.heap.size]? = some (.cells #[.slice Aw want.length cw] 25 (0, 0)) := (Below.heap_alloc _ _ _ (by rw [e3]; omega)).trans (heap_alloc_new w2 _)
  have hq3 : ((w2.alloc (.cells #[.slice Aw want.length cw] 25)).alloc (.cells #[.int .i64 0] 3)).heap[w2.heap.size + 1]? = some (.cells #[.int .i64 0] 3 (0, 0)) := by rw [← e3]; exact heap_alloc_new _ _
  have hbb := hB2.trans (hb4.mono hB2.size)
  have hT4 := (HT.out.below hB2).below hb4
  have HIT := Aside0.mk (iter_calls hT4 f u)
  have hq0 := (hbb.block _ (by rw [HE2.out]; omega)).trans HN0.out
  have hq1 := (hbb.block _ (by rw [HE2.out]; omega)).trans HN1.out
  have HB4 := Aside0.mk (HB1.out.trans (hbb.mono HB1.out.size))
  have HRW := Aside0.mk (Kd.R_below hRw hb4)
  have HQ := Aside0.mk (And.intro hq0 (And.intro hq1 (And.intro hq2 hq3)))
  have HE4 := Aside0.mk e4
  clear hR2 hB2 hRw e3 e4 hb4 hq0 hq1 hq2 hq3 hbb hT4 HT HB1 HN0 HN1 HE2 HSC
  gi_wp2_with fail
  refine ⟨trivial, (callsIn_wide.2 HIT.out).mono ?_⟩
  rintro e V ⟨rfl, hBV, hsV, hIV⟩
  have hE := HE4.out
  rw [hE] at hBV hsV hIV
  obtain ⟨z0, z1, z2, z3⟩ := HQ.out
  have hlt : ∀ k, OkI (fun k => ok k ∧ k < w.heap.size) (w2.heap.size + 2) k → k < V.heap.size := fun k hk => by
    rcases hk with ⟨_, hk⟩ | hk | hk | hk <;> omega
  have hne : ∀ k, OkI (fun k => ok k ∧ k < w.heap.size) (w2.heap.size + 2) k → k ≠ w2.heap.size + 1 := fun k hk => by
    rcases hk with ⟨⟨_, hk⟩, _⟩ | hk | hk | hk <;> omega
  have hG0 : GoesAt w.heap.size (w.heap.size + 1) w2.heap.size most want Aw cw 0 w false 0 V := by
    have b0 := (hBV.block _ (by omega)).trans z0
    have b1 := (hBV.block _ (by omega)).trans z1
    have b2 := (hBV.block _ (by omega)).trans z2
    have b3 := (hBV.block _ (by omega)).trans z3
    exact ⟨(blk_cell b0 0).trans rfl, (blk_cell b1 0).trans rfl, blk_frozen b1 0, (blk_cell b2 0).trans rfl, (blk_cell b3 0).trans rfl, blk_frozen b3 0⟩
  have hRV : k59.R 59 V 0 (fun k => k < w2.heap.size) (.slice Aw want.length cw) want := Kd.R_step HRW.out (fun k hk _ => hBV.block k (by omega))
  have hB0 : Below w.heap.size w V := HB4.out.trans (hBV.mono (by omega))
  have HLT := Aside0.mk hlt
  have HNE := Aside0.mk hne
  have HRV := Aside0.mk hRV
  have HB0 := Aside0.mk hB0
  have HG0 := Aside0.mk hG0
  have HIV := Aside0.mk hIV
  clear hlt hne hRV hB0 hG0 hIV z0 z1 z2 z3 hBV HRW HIT HQ HB4
  gi_wp2_with fail
  refine wpIn_rangeFunc_ownF (F := Fence.wide) rfl (by omega) (gf := 46) (lb := #[.pointer (some ⟨w2.heap.size + 2 + 2, 0, none⟩), .pointer (some ⟨w2.heap.size + 2, 0, none⟩), .pointer (some ⟨w2.heap.size + 2 + 1, 0, none⟩)]) rfl trivial (enters_of Try.func46 (by kernel_rfl) rfl)
    (iter_stops HIV.out HLT.out _) KeptIn.trans (keptIn_b HLT.out) (Below.refl _ _) (fun _ => rfl)
    (fun pre W => (GoesAt w.heap.size (w.heap.size + 1) w2.heap.size most want Aw cw 0 w false pre.length W ∧ k59.R 59 W 0 (fun k => k < w2.heap.size) (.slice Aw want.length cw) want ∧ pre <+: want) ∧ Below w.heap.size w W)
    (fun c pre W => (c = .ret ∧ GoesX (w.heap.size + 1) want pre W) ∧ Below w.heap.size w W)
    ?hI ?hIx ?h0 (fun x => { tmps := #[Value.pointer (some ⟨bt, 0, none⟩), .slice A l.length c, .string f, .string u, .int .i64 most, undef, undef, undef, undef, .pointer (some ⟨w.heap.size, 0, none⟩), .pointer (some ⟨w.heap.size + 1, 0, none⟩), .pointer (some ⟨w2.heap.size, 0, none⟩), .pointer (some ⟨w2.heap.size + 1, 0, none⟩), .string x.f0, .int .i64 x.f1, .slice A l.length c, .string f, .string u, .slice Aw want.length cw, .pointer (some ⟨bt, 0, none⟩), .string f, .string u, .func (.func 46) #[] #[.pointer (some ⟨w2.heap.size + 1 + 1 + 2, 0, none⟩), .pointer (some ⟨w2.heap.size + 1 + 1, 0, none⟩), .pointer (some ⟨w2.heap.size + 1 + 1 + 1, 0, none⟩)], .string x.f0, .int .i64 x.f1, undef, undef, undef, undef, undef, undef, undef, undef, undef, undef, undef, undef, undef, undef, undef, undef, undef, undef, undef, undef, undef, undef, undef, undef, undef, undef, undef, undef, undef, undef, undef], defers := [] }) ?assign ?body ?done ?stop
  case hI =>
    refine OwnFrom.and (fun s A B row hs hg hr => ?_) (ownFrom_below (Nat.le_refl _) (by omega))
    obtain ⟨⟨a0, a1, a2, a3, a4, a5⟩, a6, a7⟩ := hs
    have hr' : ∀ r, row = some r → ∃ o : Obj, A.heap[r]? = some o ∧ o.isCells = false := fun r e => (hr r e).2
    exact ⟨⟨cell_kept a0 hg hr', cell_kept a1 hg hr', (frozen_kept a1 hg hr').trans a2, cell_kept a3 hg hr', cell_kept a4 hg hr', (frozen_kept a4 hg hr').trans a5⟩, Kd.R_grown a6 hg (fun k hk e => by have := (hr k e.symm).1; omega), a7⟩
  case hIx =>
    refine fun c => OwnFrom.and (fun s A B row hs hg hr => ?_) (ownFrom_below (Nat.le_refl _) (by omega))
    obtain ⟨e, ans, a1, a2⟩ := hs
    exact ⟨e, ans, cell_kept a1 hg (fun r e => (hr r e).2), a2⟩
  case h0 => exact ⟨⟨HG0.out, HRV.out, List.nil_prefix⟩, HB0.out⟩
  case assign =>
    intro l x W K hK
    gi_wp2_with fail
    exact hK
  case body =>
    rintro lp pre x W ⟨⟨⟨a0, a1, a2, a3, a4, a5⟩, hR, hpre⟩, hB⟩ hlen
    rw [HWANT.out] at hlen
    obtain ⟨ad, rfl, g0, g1⟩ := PTreeRanks.at_T59 (Kd.R_reads' hR).2.2 pre.length (by omega) (by omega)
    rw [rd_eq want pre.length hlen, Int.toNat_natCast] at g0 g1
    have p0 : ((0 : Int) ≤ ((pre.length : Nat) : Int)) = True := eq_true (by omega)
    have p1 : (((pre.length : Nat) : Int) < ((want.length : Nat) : Int)) = True := eq_true (by omega)
    have b1 : decide (((want.length : Nat) : Int) ≤ ((pre.length : Nat) : Int)) = false := decide_eq_false (by omega)
    have n1 : (want.length ≤ pre.length) = False := eq_false (by omega)
    have n2 : pre.length + 1 < 9223372036854775807 := by omega
    have HG := Aside0.mk (show GoesAt w.heap.size (w.heap.size + 1) w2.heap.size most want (some ad) cw 0 w false pre.length W from ⟨a0, a1, a2, a3, a4, a5⟩)
    have HPX : Aside0 (pre ++ [x] <+: want ↔ want[pre.length] = x) := ⟨by
      obtain ⟨z, rfl⟩ := hpre
      rw [List.prefix_append_right_inj, List.getElem_append_right (Nat.le_refl _)]
      cases z with
      | nil => simp at hlen
      | cons y z => simp [List.cons_prefix_cons, eq_comm]⟩
    have HR := Aside0.mk hR
    have HB := Aside0.mk hB
    have HKO : Aside0 (∀ v, KeepsOthers W (W.setCell ⟨w.heap.size + 1, 0, none⟩ v)) := ⟨fun v => KeepsOthers.setCell _ _ _⟩
    clear hR hB hpre
    by_cases hx : want[pre.length] = x
    · have HP := Aside0.mk (HPX.out.2 hx)
      rw [hx] at g0 g1
      clear HPX hx
      obtain ⟨k, v⟩ := x
      by_cases hm : ((pre.length : Nat) : Int) + 1 = most
      · have m1 : decide (((pre.length : Nat) : Int) + 1 = most) = true := decide_eq_true hm
        have m2 : (((pre.length : Nat) : Int) + 1 == most) = true := by simpa using hm
        have a1' : ∀ v, (W.setCell ⟨w2.heap.size + 1, 0, none⟩ v).cell? ⟨w.heap.size + 1, 0, none⟩ = some (.bool false) := fun v => (World.cell?_setCell_far W ⟨w2.heap.size + 1, 0, none⟩ ⟨w.heap.size + 1, 0, none⟩ _ (show w2.heap.size + 1 ≠ w.heap.size + 1 by omega)).trans a1
        gi_wp2_with fail
        exact ⟨(KeepsOthers.setCell _ _ _).trans (KeepsOthers.setCell _ _ _), ⟨rfl, true, World.cell?_setCell_same' _ _ _ (by rw [a1']; rfl), fun _ => rfl⟩, (HB.out.setCell (p := ⟨w2.heap.size + 1, 0, none⟩) (show w.heap.size ≤ w2.heap.size + 1 by omega) _).setCell (p := ⟨w.heap.size + 1, 0, none⟩) (show w.heap.size ≤ w.heap.size + 1 by omega) _⟩
      · have m1 : decide (((pre.length : Nat) : Int) + 1 = most) = false := decide_eq_false hm
        have m2 : (((pre.length : Nat) : Int) + 1 == most) = false := by simpa using hm
        gi_wp2_with fail
        have hg9 : W.grownBy (W.setCell ⟨w2.heap.size + 1, 0, none⟩ (.int .i64 ((pre.length : Nat) + 1))) (some (w2.heap.size + 1)) := gb_set (grownBy_refl _ _) _ _
        refine ⟨KeepsOthers.setCell _ _ _, fun k hk => Below.heap_setCell W ⟨w2.heap.size + 1, 0, none⟩ _ k (HNE.out k hk), ⟨?_, Kd.R_grown HR.out hg9 (fun k hk e => by injection e with e; omega), HP.out⟩, HB.out.setCell (p := ⟨w2.heap.size + 1, 0, none⟩) (show w.heap.size ≤ w2.heap.size + 1 by omega) _⟩
        rw [List.length_append, List.length_singleton]
        exact goes_step HG.out (by omega) (by omega)
    · have HP := Aside0.mk (fun h => hx (HPX.out.1 h))
      generalize want[pre.length] = y at *
      obtain ⟨k, v⟩ := x
      obtain ⟨k2, v2⟩ := y
      replace g0 : _ = some (Value.string k2) := g0
      replace g1 : _ = some (Value.int .i64 v2) := g1
      by_cases hk : k2 = k
      · subst hk
        have hv : v2 ≠ v := fun e => hx (by rw [e])
        have m1 : decide (v2 = v) = false := decide_eq_false hv
        have m2 : (v2 == v) = false := by simpa using hv
        have m3 : (v2 != v) = true := by simpa using hv
        gi_wp2_with fail
        exact ⟨KeepsOthers.setCell _ _ _, ⟨rfl, false, World.cell?_setCell_same' _ _ _ (by rw [a1]; rfl), fun h => absurd h HP.out⟩, HB.out.setCell (p := ⟨w.heap.size + 1, 0, none⟩) (show w.heap.size ≤ w.heap.size + 1 by omega) _⟩
      · have m1 : (k2.toList = k.toList) = False := eq_false (fun e => hk (toList_inj e))
        gi_wp2_with fail
        exact ⟨KeepsOthers.setCell _ _ _, ⟨rfl, false, World.cell?_setCell_same' _ _ _ (by rw [a1]; rfl), fun h => absurd h HP.out⟩, HB.out.setCell (p := ⟨w.heap.size + 1, 0, none⟩) (show w.heap.size ≤ w.heap.size + 1 by omega) _⟩
  case done =>
    rintro D ys W hD rfl ⟨⟨⟨a0, a1, a2, a3, a4, a5⟩, hR, hpre⟩, hB⟩ hK
    rw [HWANT.out] at a4
    gi_wp2_with fail
    have hK' := (KeepsOthers.setCell W ⟨w.heap.size + 1, 0, none⟩ (.bool true)).same D _ hK rfl
    refine ⟨by simp, .inl ⟨_, _, rfl, run_takeDeferred hK', ?_⟩⟩
    have hc5 := cell_kept (World.cell?_setCell_same' W ⟨w.heap.size + 1, 0, none⟩ (.bool true) (by rw [a1]; rfl)) (grownBy_putObj' _ D (.deferred none)) (fun r e => by cases e; exact ⟨_, hK', rfl⟩)
    refine ⟨.bool true, ?_, rfl, (hB.setCell (p := ⟨w.heap.size + 1, 0, none⟩) (show w.heap.size ≤ w.heap.size + 1 by omega) _).trans (belowK_b (w := w) (Nat.le_refl _) _ D _ _ (by omega) hK' rfl rfl)⟩
    simp [results, Try.f40, go_sem, hc5]
  case stop =>
    rintro D c pre W hD hpre ⟨⟨rfl, ans, a1, a2⟩, hB⟩ hK
    rw [HWANT.out] at hpre
    obtain rfl := a2 hpre
    gi_wp2_with fail
    refine ⟨by simp, .inl ⟨_, _, rfl, run_takeDeferred hK, ?_⟩⟩
    have hc5 := cell_kept a1 (grownBy_putObj' _ D (.deferred none)) (fun r e => by cases e; exact ⟨_, hK, rfl⟩)
    refine ⟨.bool true, ?_, rfl, hB.trans (belowK_b (w := w) (Nat.le_refl _) W D _ _ (by omega) hK rfl rfl)⟩
    simp [results, Try.f40, go_sem, hc5]
end Go.Proofs.Ytjabcdfbncglnaa
