/- WHAT IS PROVED: Tracked's sites lie in a block of their own, which may be written. | WHAT IS PROVED: same answers true at equal edges. | WHAT IS PROVED: laws for GraphOwn: what may be written over; a row with room behind it; the iterator in a world that has gone on; what its loop keeps. -/
import Derived.Test.YtknpkfjaffhejaaGreatTk
import Derived.Test.YtknpkfjaffhejaaGreatPt
import Derived.Deep.RegionHeld3
namespace Go.Proofs.YtknpkfjaffhejaaGreat
open Go.RowKit Go.Shelf Go.Sort Go.Proofs.YtknpkfjaffhejaaGreatW.PrintWords Go.Proofs.YtknpkfjaffhejaaGreatW.PrintLast Go.Proofs.YtknpkfjaffhejaaGreatW.PrintMore
set_option linter.unusedVariables false
set_option linter.unusedSimpArgs false

/-- Cells that may be written. -/
def Frm (W : World) (g m : Nat) : Prop := ∀ j, j < m → (W.cell? ⟨g, j, none⟩).isSome = true ∧ W.frozen? ⟨g, j, none⟩ = false
/-- A slice of sites in a block of its own. -/
def SiO (base : Nat) (W : World) (v : Value) (l : List SI) : Prop := SiR W v l ∧ (l ≠ [] → ∃ g c, v = .slice (some ⟨g, 0, none⟩) l.length c ∧ base ≤ g ∧ Frm W g (l.length * 2))
theorem SiO.mono {base base' : Nat} {W : World} {v : Value} {l : List SI} (h : SiO base W v l) (hb : base' ≤ base) : SiO base' W v l :=
  ⟨h.1, fun hl => by
    obtain ⟨g, c, e, h1, h2⟩ := h.2 hl
    exact ⟨g, c, e, Nat.le_trans hb h1, h2⟩⟩
theorem SiO.putObj {base : Nat} {W : World} {v : Value} {l : List SI} {D : Nat} {x : Option (List Deferred)} (h : SiO base W v l) (o : Obj) (hD : W.heap[D]? = some (.deferred x)) : SiO base (W.putObj D o) v l := by
  refine ⟨h.1.putObj o hD, fun hl => ?_⟩
  obtain ⟨g, c, e, h1, h2⟩ := h.2 hl
  refine ⟨g, c, e, h1, fun j hj => ?_⟩
  have h3 := h2 j hj
  have hne : g ≠ D := fun e => by
    subst e
    simp [World.cell?, hD] at h3
  rw [World.cell?_of_block (World.putObj_heap_other hne), World.frozen?_of_block (World.putObj_heap_other hne)]
  exact h3
theorem siO_of_holds {base : Nat} {W : World} {g c : Nat} {l : List SI} (hg : base ≤ g) (h : HoldsK encS 2 W g 0 l.toArray) : SiO base W (.slice (some ⟨g, 0, none⟩) l.length c) l := by
  refine ⟨by simpa using siR_of_holds (cap := c) h, fun _ => ⟨g, c, rfl, hg, fun j hj => ?_⟩⟩
  obtain ⟨h1, h2⟩ := h j (by rw [size_flatK]; simpa using hj)
  rw [Nat.zero_add] at h1 h2
  exact ⟨by rw [h1]; rfl, h2⟩

theorem sortI_calls2 (W0 W : World) (g c : Nat) (l : List SI) (how : W.ownsRow W0.heap.size 37 2 (.slice (some ⟨g, 0, none⟩) l.length c) l.length (flatS l)) (hg : W0.heap.size ≤ g) (hb : Below W0.heap.size W0 W) (hl : l.length < 4611686018427387904) :
    Calls Tryz.prog 34 #[.slice (some ⟨g, 0, none⟩) l.length c, .func (.func 23) #[] #[]] W fun e W' => e = .returned (.tuple #[]) ∧ SiO W0.heap.size W' (.slice (some ⟨g, 0, none⟩) (sortI l).length c) (sortI l) ∧ Below W0.heap.size W0 W' := by
  have hH := holds_of_owns how
  have hlt : g < W.heap.size := (how.lt g rfl).2
  have eg : ∀ args w, (callFunc 23 args).run Tryz.prog w = .ok (.enter 23 args) w := enters_of Tryz.func23 (by kernel_rfl) rfl
  have hcon := AnyQ.slices_SortFunc_total Tryz.sortSite 2 Tryz.isAgg37 Tryz.sizeOf37 encS encS_len encS_one cmpSite cmpSite3.swo 23 #[] g 0 c l.toArray W eg (cmpLaysI g 0 l.toArray.size W) hH hlt (by simpa using hl) cmpSite3.total
  change Calls Tryz.prog 34 _ _ _ at hcon
  rw [List.size_toArray] at hcon
  refine hcon.mono ?_
  rintro e w' ⟨rfl, n, os, rfl⟩
  have hs : (sortI l).toArray.size = l.toArray.size := by simp [sortI]
  change _ ∧ SiO W0.heap.size (sortWorldK encS 2 W g 0 n (sortI l).toArray os) _ _ ∧ Below _ _ (sortWorldK encS 2 W g 0 n (sortI l).toArray os)
  have hH2 := holdsK_sortWorldK_c encS 2 W g 0 l.toArray (sortI l).toArray n os hH hlt hs
  refine ⟨rfl, siO_of_holds (c := c) hg hH2, ?_⟩
  refine hb.trans ⟨rfl, rfl, rfl, size_sortWorldK_c encS 2 W g 0 n (sortI l).toArray os, fun k hk => ?_⟩
  have hkW : k < W.heap.size := Nat.lt_of_lt_of_le hk hb.size
  unfold sortWorldK
  rw [heap_grow_old _ _ (by rw [size_putRowK]; exact hkW)]
  have hne : g ≠ k := by omega
  simp [putRowK, putRow, mapBlock, Array.getElem?_modify, hne, Sort.ahead]

set_option maxHeartbeats 2000000 in
theorem sortedI_calls2 {Bm b n : Nat} {z : Value} {ks : List SI} {g : SI → Value} (W : World) (hB : Bm < W.heap.size) (hbx : W.heap[Bm]? = some (.cells #[.map (some b)] 50 (0, 0))) (hm : MapAt 37 encI okI z W b n ks g) (hn : n ≤ 2199023255552) :
    Calls Tryz.prog 21 #[.func (.func 35) #[] #[.pointer (some ⟨Bm, 0, none⟩)], .func (.func 23) #[] #[]] W fun e W' => ∃ (v' : Value) (l : List SI), e = .returned v' ∧ SiO W.heap.size W' v' l ∧ l.Pairwise (fun x y => ltOf cmpSite x y = true) ∧ (∀ x ∈ l, okI x) ∧ (∀ x, okI x → (x ∈ l ↔ x ∈ ks)) ∧ Below W.heap.size W W' := by
  have H := Aside0.mk (collectI_calls W hB hbx hm hn)
  clear hbx hm
  go_enter Tryz.func21, Tryz.ntmps21
  go_wp2_with (go_at_call 33; refine H.out.mono ?_; rintro e W1 ⟨v1, ss, rfl, hk, how, hb⟩)
  rcases owns_kind how with ⟨rfl, h1, h2⟩ | ⟨g', c, rfl, hg, hlc, _⟩
  · obtain rfl : ss = [] := List.length_eq_zero_iff.1 h1
    have HF := Aside0.mk (And.intro hk hb)
    have hs := fun W => sortI_none none 0 W (.func (.func 23) #[] #[])
    clear hk how hb h1 h2
    go_wp2_with (go_at_call 34; refine (hs _).mono ?_; rintro e W2 ⟨rfl, rfl⟩)
    go_ret
    exact ⟨_, [], rfl, ⟨⟨none, 0, rfl, fun h => absurd rfl h⟩, fun h => absurd rfl h⟩, .nil, (fun x hx => by cases hx), HF.out.1.2.2.2, HF.out.2⟩
  · have hlen : ss.length < 4611686018427387904 := by have := hk.1; omega
    have HS := Aside0.mk (sortI_calls2 W W1 g' c ss how hg hb hlen)
    have HF := Aside0.mk hk
    have hll : (sortI ss).length = ss.length := by simp [sortI]
    have HLL := Aside0.mk hll
    clear hk how hb hlen hlc hll
    go_wp2_with (go_at_call 34; refine HS.out.mono ?_; rintro e W2 ⟨rfl, hr, hb2⟩; have HR := Aside0.mk (And.intro hr hb2); clear hr hb2)
    go_ret
    refine ⟨_, sortI ss, rfl, ?_, sortI_strict ss HF.out.2.1, fun x hx => HF.out.2.2.1 x ((sortI_perm ss).mem_iff.1 hx), fun x hx => (sortI_perm ss).mem_iff.trans (HF.out.2.2.2 x hx), HR.out.2⟩
    have := HR.out.1
    rw [HLL.out] at this
    exact this

attribute [local go_sem] Oper.semAt_some
set_option maxRecDepth 100000 in
set_option maxHeartbeats 16000000 in
theorem tracked_calls2 (W : World) (v : Value) (l : List Edge) {m0 : Nat} (h : EdR m0 W v l) (hn : l.length ≤ 1048576) (hs : ∀ e ∈ l, okE e) :
    Calls Tryz.prog 7 #[v] W fun e W' => ∃ (v' : Value) (sites : List SI), e = .returned v' ∧ SiO W.heap.size W' v' sites ∧ sites.Pairwise (fun x y => ltOf cmpSite x y = true) ∧ (∀ s, s ∈ sites ↔ s ∈ trk (dangersE (vulE l))) ∧ Below W.heap.size W W' := by
  have h' := h
  obtain ⟨A, c, rfl, _⟩ := h'
  have hmm := @run_makeMap Tryz.prog
  have e1 : (W.alloc (.map #[] 0)).heap.size = W.heap.size + 1 := by simp
  have e2 : ((W.alloc (.map #[] 0)).alloc (.cells #[.map (some W.heap.size)] 50)).heap.size = W.heap.size + 2 := by simp
  have hb1 := below_mk (below_mk (Below.refl W.heap.size W) (.map #[] 0)) (.cells #[.map (some W.heap.size)] 50)
  have HC := Aside0.mk (dangers0_calls ((W.alloc (.map #[] 0)).alloc (.cells #[.map (some W.heap.size)] 50)) _ l (h.below hb1) hn (fun e he => (hs e he).1))
  have hn0 : CntAt 37 encI okI ((W.alloc (.map #[] 0)).alloc (.cells #[.map (some W.heap.size)] 50)) W.heap.size 0 [] := (CntAt.made W).kept (World.grownBy_alloc _ _ none) (by simp)
  have hn1 : ((W.alloc (.map #[] 0)).alloc (.cells #[.map (some W.heap.size)] 50)).heap[W.heap.size + 1]? = some (.cells #[.map (some W.heap.size)] 50 (0, 0)) := by
    rw [← e1]
    exact heap_alloc_new _ _
  have HB1 := Aside0.mk hb1
  have HN0 := Aside0.mk (And.intro hn0 hn1)
  have HV := Aside0.mk (vulE_ok hs)
  have HVL : Aside0 ((vulE l).length ≤ 1048576) := ⟨Nat.le_trans (vulE_len l) hn⟩
  have HE1 := Aside0.mk e2
  clear h hb1 hs e1 e2 hn0 hn1
  refine (callsIn_wide (n := 5)).1 ?_
  refine callsIn_of_wp_marks Tryz.func7 rfl trivial ?_ rfl
  simp only [Tryz.ntmps7, List.size_toArray, List.length_cons, List.length_nil, Nat.reduceAdd, Nat.reduceSub, Array.replicate_succ, Array.replicate_zero, List.push_toArray, List.append_toArray, List.nil_append, List.cons_append]
  gi_wp2_with fail
  refine ⟨trivial, (callsIn_wide.2 HC.out).mono ?_⟩
  rintro e U ⟨hbU, f, rfl, hD⟩
  obtain ⟨b1, b3, rfl⟩ := hD.form
  have hE := HE1.out
  rw [hE] at hbU hD
  have hU := hD.lt
  have hnU0 : CntAt 37 encI okI U W.heap.size 0 [] := by
    obtain ⟨ks, g, q1, q2, q3⟩ := HN0.out.1
    exact ⟨ks, g, q1.below (hbU.block _ (by omega)), q2, q3⟩
  have hnU1 := (hbU.block (W.heap.size + 1) (by omega)).trans HN0.out.2
  have hB0 : Below W.heap.size W U := HB1.out.trans (hbU.mono (by omega))
  have HD := Aside0.mk hD
  have HB0 := Aside0.mk hB0
  have HNU := Aside0.mk (And.intro hnU0 hnU1)
  clear hbU hD hnU0 hnU1 hB0 HB1 HN0
  gi_wp2_with fail
  have hgU := grownBy_refl U (some W.heap.size)
  refine wpIn_rangeFunc_ownH (F := Fence.wide) rfl (by omega) (gf := 30) (lb := #[.pointer (some ⟨b1, 0, none⟩), .pointer (some ⟨b3, 0, none⟩)]) rfl trivial (enters_of Tryz.func30 (by kernel_rfl) rfl)
    (dg_stops HD.out HV.out HVL.out _) KpE.trans kpE_b (Below.refl _ _) (fun _ => rfl)
    (TkI U W.heap.size) (fun c pre W' => False)
    (TkI_own _ _ (by omega)) (fun c s A B row hs hg hr => hs.elim) ?h0
    (fun x a' W' => ∃ Bd, U.heap.size ≤ Bd ∧ W'.heap[Bd]? = some (.cells (encD x.1).toArray 42 (0, 0)) ∧ a' = { tmps := #[Value.slice A l.length c, undef, .slice none 0 0, .pointer (some ⟨W.heap.size + 1, 0, none⟩), .pointer (some ⟨Bd, 0, none⟩), .map (some W.heap.size), .slice A l.length c, .func (.func 30) #[] #[.pointer (some ⟨b1, 0, none⟩), .pointer (some ⟨b3, 0, none⟩)], .agg (encD x.1).toArray, undef, undef, undef, undef, undef, undef, undef, undef, undef, undef, undef, undef, undef, undef, undef, undef, undef, undef, undef], defers := [] })
    ?hAx ?assign ?body ?done ?stop
  case h0 => exact ⟨HNU.out.1, hgU⟩
  case hAx =>
    rintro x a' s X Y row ⟨Bd, h1, h2, h3⟩ hg hr
    exact ⟨Bd, h1, (hg.block _ (blk_lt h2) (fun e => by
      obtain ⟨o, ho, hc⟩ := (hr _ e.symm).2
      rw [h2] at ho
      cases ho
      cases hc)).trans h2, h3⟩
  case assign =>
    rintro lp pre x W2 K hI hK
    have hst : Sem.run Tryz.prog (storeCells ⟨W2.heap.size, 0, none⟩ (encD x.1) 0) (W2.alloc (.cells #[.string ⟨#[]⟩, .int .i64 0, .string ⟨#[]⟩, .int .i64 0, .int .i64 0, .bool false, .string ⟨#[]⟩, .int .i64 0, .string ⟨#[]⟩, .int .i64 0, .int .i64 0, .bool false] 42)) = .ok () (W2.alloc (.cells (encD x.1).toArray 42)) := storeNewD W2 x.1
    have hl12 : (encD x.1).length = 12 := rfl
    have HI := Aside0.mk hI
    have HK := Aside0.mk hK
    clear hI hK
    gi_wp2_with fail
    exact HK.out _ _ ((KeepsOthers.alloc _ _).from _) (KpE.below (below_mk (Below.refl _ W2) _) HI.out.2.size) (TkI_own _ _ (by omega) pre W2 _ none HI.out (World.grownBy_alloc W2 _ none) (fun r e => by cases e)) ⟨_, HI.out.2.size, heap_alloc_new W2 _, rfl⟩
  case body =>
    rintro lp pre ⟨⟨⟨p, n, q, m0', k, v⟩, ⟨p', n', q', m', k', v'⟩⟩, hx⟩ a' W2 hl ⟨r, hr⟩ ⟨hcnt, hg⟩ ⟨Bd, hd1, hd2, rfl⟩ hlen
    have hd3 : W2.heap[Bd]? = some (.cells #[.string p, .int .i64 n, .string q, .int .i64 m0', .int .i64 k, .bool v, .string p', .int .i64 n', .string q', .int .i64 m', .int .i64 k', .bool v'] 42 (0, 0)) := hd2
    have hdl := dangers_len (vulE l) HVL.out
    obtain ⟨es, cl, hmb⟩ : ∃ es cl, W2.heap[W.heap.size]? = some (.map es cl) := by
      obtain ⟨_, _, hm, _⟩ := hcnt
      exact hm.block
    obtain ⟨c1, v1, st1, We1, Wf1, hc1, l1, r1, l1', s1, k1, g1, ge1, gf1⟩ := cnt_entry hcnt.drew (grownBy_drew hg) (by unfold maxLen; omega) (x := (p, n)) ⟨hx.1.1, hx.1.2.2.1⟩
    obtain ⟨c2, v2, st2, We2, Wf2, hc2, l2, r2, l2', s2, k2, g2, ge2, gf2⟩ := cnt_entry k1.drew (grownBy_drew g1) (by unfold maxLen; omega) (x := (p', n')) ⟨hx.2.1, hx.2.2.2.1⟩
    have hne1 : Bd ≠ W.heap.size := fun e => by rw [e, hmb] at hd3; cases hd3
    have HBK : Aside0 (∀ W', W2.grownBy W' (some W.heap.size) → (W'.cell? ⟨W.heap.size + 1, 0, none⟩ = some (.map (some W.heap.size)) ∧ W'.cell? ⟨Bd, 0, none⟩ = some (.string p) ∧ W'.cell? ⟨Bd, 1, none⟩ = some (.int .i64 n) ∧ W'.cell? ⟨Bd, 6, none⟩ = some (.string p') ∧ W'.cell? ⟨Bd, 7, none⟩ = some (.int .i64 n'))) := ⟨fun W' hg' => by
      have e1 := (hg'.block Bd (blk_lt hd3) (fun e => hne1 (by injection e))).trans hd3
      have e3 := (hg'.block (W.heap.size + 1) (by have := hg.size; omega) (by simp)).trans ((hg.block (W.heap.size + 1) (by omega) (by simp)).trans HNU.out.2)
      exact ⟨(blk_cell e3 0).trans rfl, (blk_cell e1 0).trans rfl, (blk_cell e1 1).trans rfl, (blk_cell e1 6).trans rfl, (blk_cell e1 7).trans rfl⟩⟩
    have q0 : W2.grownBy W2.drew (some W.heap.size) := grownBy_drew (grownBy_refl _ _)
    have q1 : W2.grownBy We1 (some W.heap.size) := grownBy_trans q0 ge1
    have q2 : W2.grownBy Wf1 (some W.heap.size) := grownBy_trans q0 gf1
    have q3 : W2.grownBy Wf1.drew (some W.heap.size) := grownBy_drew q2
    have q4 : W2.grownBy We2 (some W.heap.size) := grownBy_trans q3 ge2
    have q5 : W2.grownBy Wf2 (some W.heap.size) := grownBy_trans q3 gf2
    obtain ⟨a0, a1, a2, a3, a4⟩ := HBK.out _ q0
    obtain ⟨b0, b1', b2, b3', b4⟩ := HBK.out _ q2
    obtain ⟨c0, c1', c2', c3', c4⟩ := HBK.out _ q3
    have HFIN : Aside0 (KeepsFrom U.heap.size W2 Wf2 ∧ KpE (W.heap.size + 2) U.heap.size W2 Wf2 ∧ TkI U W.heap.size (pre ++ [⟨(⟨p, n, q, m0', k, v⟩, ⟨p', n', q', m', k', v'⟩), hx⟩]) Wf2) := ⟨by
      refine ⟨KeepsFrom.of_grownBy q5 (fun j e => by injection e with e; omega), kpE_map (by omega) hg.size q5 ⟨es, cl, hmb⟩, ?_, g2⟩
      have e : trk (val1 (pre ++ [(⟨(⟨p, n, q, m0', k, v⟩, ⟨p', n', q', m', k', v'⟩), hx⟩ : DD)])) = trk (val1 pre) ++ [(p, n)] ++ [(p', n')] := by
        rw [show val1 (pre ++ [(⟨(⟨p, n, q, m0', k, v⟩, ⟨p', n', q', m', k', v'⟩), hx⟩ : DD)]) = val1 pre ++ [(⟨p, n, q, m0', k, v⟩, ⟨p', n', q', m', k', v'⟩)] from by simp [val1], trk_snoc]
      rw [e, List.length_append, List.length_singleton, Nat.add_mul]
      exact k2⟩
    have w1 : IntKind.i64.wrap ((c1 : Int) + 1) = (c1 : Int) + 1 := wrap_c c1 (by omega)
    have w2 : IntKind.i64.wrap ((c2 : Int) + 1) = (c2 : Int) + 1 := wrap_c c2 (by omega)
    rw [← w1] at s1
    rw [← w2] at s2
    simp only [encI] at l1 r1 l1' l2 r2 l2'
    simp only [goInt] at r1 s1 r2 s2
    clear w1 w2 hd2 hd3 hlen hdl hg hcnt hmb k1 k2 g1 g2 ge1 ge2 gf1 gf2 q0 q1 q2 q3 q4 q5 hr hc1 hc2
    gi_wp2_with fail
    refine wpIn_mono (Q := fun e a' w' => e = .normal ∧ a' = { tmps := #[Value.slice A l.length c, undef, .slice none 0 0, .pointer (some ⟨W.heap.size + 1, 0, none⟩), .pointer (some ⟨Bd, 0, none⟩), .map (some W.heap.size), .slice A l.length c, .func (.func 30) #[] #[.pointer (some ⟨b1, 0, none⟩), .pointer (some ⟨b3, 0, none⟩)], .agg (encD (⟨p, n, q, m0', k, v⟩, ⟨p', n', q', m', k', v'⟩)).toArray, .map (some W.heap.size), .pointer (some ⟨Bd, 0, none⟩), .pointer (some ⟨Bd, 0, none⟩), .agg #[.string p, .int .i64 n], .int .i64 c1, .int .i64 (IntKind.i64.wrap ((c1 : Int) + 1)), .tuple #[v1, .int .i64 st1], .int .i64 st1, undef, undef, undef, undef, undef, undef, undef, undef, undef, undef, undef], defers := [] } ∧ w' = Wf1) ?_ ?_
    · clear l2 r2 l2' s2 b0 b1' b2 b3' b4 c0 c1' c2' c3' c4
      gi_region
      all_goals exact ⟨rfl, rfl, rfl⟩
    · rintro _ _ _ ⟨rfl, rfl, rfl⟩
      clear l1 r1 l1' s1 a0 a1 a2 a3 a4
      gi_wp2_with fail
      refine wpIn_mono (Q := fun e a' w' => e = .normal ∧ a' = { tmps := #[Value.slice A l.length c, undef, .slice none 0 0, .pointer (some ⟨W.heap.size + 1, 0, none⟩), .pointer (some ⟨Bd, 0, none⟩), .map (some W.heap.size), .slice A l.length c, .func (.func 30) #[] #[.pointer (some ⟨b1, 0, none⟩), .pointer (some ⟨b3, 0, none⟩)], .agg (encD (⟨p, n, q, m0', k, v⟩, ⟨p', n', q', m', k', v'⟩)).toArray, .map (some W.heap.size), .pointer (some ⟨Bd, 0, none⟩), .pointer (some ⟨Bd, 0, none⟩), .agg #[.string p, .int .i64 n], .int .i64 c1, .int .i64 (IntKind.i64.wrap ((c1 : Int) + 1)), .tuple #[v1, .int .i64 st1], .int .i64 st1, .map (some W.heap.size), .pointer (some ⟨Bd, 6, none⟩), .pointer (some ⟨Bd, 6, none⟩), .agg #[.string p', .int .i64 n'], .int .i64 c2, .int .i64 (IntKind.i64.wrap ((c2 : Int) + 1)), .tuple #[v2, .int .i64 st2], .int .i64 st2, undef, undef, undef], defers := [] } ∧ w' = Wf2) ?_ ?_
      · gi_region
        all_goals exact ⟨rfl, rfl, rfl⟩
      · rintro _ _ _ ⟨rfl, rfl, rfl⟩
        gi_wp2_with fail
        exact HFIN.out
  case done =>
    rintro D xs W3 hD hxs ⟨hcnt, hg⟩ hK
    obtain ⟨ks, g, hm, hks, _⟩ := hcnt
    have hlen := val1_len xs
    have hxs' : val1 xs = dangersE (vulE l) := hxs
    rw [hxs'] at hks hlen
    have hdl := dangers_len (vulE l) HVL.out
    have c3 := (blk_cell ((hg.block (W.heap.size + 1) (by omega) (by simp)).trans HNU.out.2) 0).trans (show (#[Value.map (some W.heap.size)])[0]? = some (.map (some W.heap.size)) from rfl)
    have HK1 := Aside0.mk (keysI_calls (some W.heap.size) W3)
    have hm4 := hm.kept (World.grownBy_alloc W3 (.cells #[.map (some W.heap.size)] 50) none) (by simp)
    have HK2 := Aside0.mk (sortedI_calls2 (W3.alloc (.cells #[.map (some W.heap.size)] 50)) (Bm := W3.heap.size) (by simp) (heap_alloc_new W3 _) hm4 (by omega))
    have HKS := Aside0.mk hks
    have hB3 : Below W.heap.size W W3 := HB0.out.trans (grownBy_below hg (by omega) (fun k e => by injection e with e; omega))
    have HB3 := Aside0.mk hB3
    have hD3 := blk_lt hK
    have hb34 := below_mk (Below.refl W3.heap.size W3) (.cells #[.map (some W.heap.size)] 50)
    clear hm hm4 hks hg hxs hxs' hlen hdl hB3
    gi_wp2_with fail
    refine ⟨trivial, (callsIn_wide.2 HK1.out).mono ?_⟩
    rintro e W4 ⟨rfl, rfl⟩
    gi_wp2_with fail
    refine ⟨trivial, (callsIn_wide.2 HK2.out).mono ?_⟩
    rintro e W5 ⟨vv, sites, rfl, hsi, hpw, hok, hmem, hb5⟩
    have hb35 := below_to hb34 hb5
    have hK5 : W5.heap[D]? = some (.deferred (some [])) := (hb35.block D hD3).trans hK
    have HF : Aside0 (SiO W.heap.size (W5.putObj D (.deferred none)) vv sites ∧ sites.Pairwise (fun x y => ltOf cmpSite x y = true) ∧ (∀ s, s ∈ sites ↔ s ∈ trk (dangersE (vulE l))) ∧ Below W.heap.size W (W5.putObj D (.deferred none))) := ⟨by
      refine ⟨(hsi.putObj _ hK5).mono (by rw [World.size_alloc]; have := HB3.out.size; omega), hpw, fun s => ⟨fun hs => (HKS.out s).1 ((hmem s (hok s hs)).1 hs), fun hs => ?_⟩, (HB3.out.trans (hb35.mono HB3.out.size)).trans (belowK_b (w := W) (Nat.le_refl _) W5 D _ _ (by omega) hK5 rfl rfl)⟩
      refine (hmem s ?_).2 ((HKS.out s).2 hs)
      obtain ⟨x, hx, hsx⟩ := mem_trk.1 hs
      obtain ⟨h1, h2⟩ := mem_dangers hx
      have o1 := HV.out _ h1
      have o2 := HV.out _ h2
      rcases hsx with rfl | rfl
      · exact ⟨o1.1, o1.2.2.1⟩
      · exact ⟨o2.1, o2.2.2.1⟩⟩
    obtain ⟨Ao, co, rfl⟩ := hsi.1.form
    clear hsi hpw hok hmem hb5 hb34 hb35 HK1 HK2
    gi_wp2_with fail
    refine ⟨by simp, .inl ⟨_, _, rfl, run_takeDeferred hK5, ?_⟩⟩
    refine ⟨.slice Ao sites.length co, ?_, ⟨_, sites, rfl, HF.out.1, HF.out.2.1, HF.out.2.2.1, HF.out.2.2.2⟩⟩
    simp [results, Tryz.f7, go_sem]
  case stop =>
    rintro D c pre W3 hD hpre hf hK
    exact hf.elim
end Go.Proofs.YtknpkfjaffhejaaGreat

namespace Go.Proofs.YtknpkfjaffhejaaGreat
open Go.RowKit Go.Sort Go.Lib Go.Proofs.YtknpkfjaffhejaaGreatW.PrintWords Go.Proofs.YtknpkfjaffhejaaGreatW.PrintLast Go.Proofs.YtknpkfjaffhejaaGreatW.PrintMore
set_option linter.unusedVariables false
set_option linter.unusedSimpArgs false

set_option maxRecDepth 100000 in
set_option maxHeartbeats 4000000 in
theorem same_calls (W : World) (v v' : Value) (l : List Edge) {m0 m1 : Nat} (h : EdR m0 W v l) (h' : EdR m1 W v' l) (hl : l.length ≤ 1099511627776) :
    Calls Tryz.prog 14 #[v, v'] W fun e W' => e = .returned (.bool true) ∧ Gr W W' := by
  have hA := h
  have hA' := h'
  obtain ⟨A, c, rfl, _⟩ := hA
  obtain ⟨A', c', rfl, _⟩ := hA'
  have HH := Aside0.mk (And.intro h h')
  clear h h'
  have e1 : (((l.length : Nat) : Int) == ((l.length : Nat) : Int)) = true := by simp
  have e2 : (((l.length : Nat) : Int) != ((l.length : Nat) : Int)) = false := by simp
  have hu39 := Tryz.underlying39
  go_enter Tryz.func14, Tryz.ntmps14
  go_wp2_with fail
  go_loopw [13] (fun v wr => ∃ i : Nat, v = .int .i64 (i : Nat) ∧ i ≤ l.length ∧ Aside0 (Gr W wr)) (fun v wr => l.length - (RowKit.intOf v).toNat)
  case atStart => exact ⟨0, rfl, Nat.zero_le _, ⟨Gr.refl _⟩⟩
  case round =>
    obtain ⟨i, rfl, hi, HI⟩ := hrel
    by_cases hlt : i < l.length
    · have d1 : decide (((i : Nat) : Int) < ((l.length : Nat) : Int)) = true := decide_eq_true (by omega)
      have p0 : ((0 : Int) ≤ ((i : Nat) : Int)) = True := eq_true (by omega)
      have p1 : (((i : Nat) : Int) < ((l.length : Nat) : Int)) = True := eq_true (by omega)
      obtain ⟨_, b, off, rfl, y0, y1, y2, y3, y4, y5⟩ := (HH.out.1.below HI.out.below).cells i hlt
      obtain ⟨_, b', off', rfl, z0, z1, z2, z3, z4, z5⟩ := (HH.out.2.below HI.out.below).cells i hlt
      obtain ⟨⟨p, n, q, m, k, vv⟩, hxe⟩ : ∃ y, l[i]! = y := ⟨_, rfl⟩
      rw [hxe] at y0 y1 y2 y3 y4 y5 z0 z1 z2 z3 z4 z5
      clear hxe
      have hne : ∀ w, Sem.run Tryz.prog (binOp .neq 39 (.agg #[.string p, .int .i64 n, .string q, .int .i64 m, .int .i64 k, .bool vv]) (.agg #[.string p, .int .i64 n, .string q, .int .i64 m, .int .i64 k, .bool vv])) w = .ok (.bool false) w := fun w => by
        have := neE ⟨p, n, q, m, k, vv⟩ ⟨p, n, q, m, k, vv⟩ w
        simpa [encE] using this
      have hgu : ∀ (op : BinOp) (a b : Operand) w, Sem.run Tryz.prog (eqGuard op 39 a b (.agg #[.string p, .int .i64 n, .string q, .int .i64 m, .int .i64 k, .bool vv]) (.agg #[.string p, .int .i64 n, .string q, .int .i64 m, .int .i64 k, .bool vv])) w = .ok () w := fun op a b w => guardE op a b ⟨p, n, q, m, k, vv⟩ ⟨p, n, q, m, k, vv⟩ w
      go_wp2_with fail
      have HSK : Aside0 (∀ W', Gr wr W' → ((W'.cell? ⟨b, off + i * 6, none⟩ = some (.string p) ∧ W'.cell? ⟨b, off + i * 6 + 1, none⟩ = some (.int .i64 n) ∧ W'.cell? ⟨b, off + i * 6 + 2, none⟩ = some (.string q) ∧ W'.cell? ⟨b, off + i * 6 + 3, none⟩ = some (.int .i64 m) ∧ W'.cell? ⟨b, off + i * 6 + 4, none⟩ = some (.int .i64 k) ∧ W'.cell? ⟨b, off + i * 6 + 5, none⟩ = some (.bool vv) ∧ W'.cell? ⟨b', off' + i * 6, none⟩ = some (.string p) ∧ W'.cell? ⟨b', off' + i * 6 + 1, none⟩ = some (.int .i64 n) ∧ W'.cell? ⟨b', off' + i * 6 + 2, none⟩ = some (.string q) ∧ W'.cell? ⟨b', off' + i * 6 + 3, none⟩ = some (.int .i64 m) ∧ W'.cell? ⟨b', off' + i * 6 + 4, none⟩ = some (.int .i64 k) ∧ W'.cell? ⟨b', off' + i * 6 + 5, none⟩ = some (.bool vv)) ∧ Gr wr W')) := ⟨fun W' hg => ⟨⟨cell_below hg.below y0, cell_below hg.below y1, cell_below hg.below y2, cell_below hg.below y3, cell_below hg.below y4, cell_below hg.below y5, cell_below hg.below z0, cell_below hg.below z1, cell_below hg.below z2, cell_below hg.below z3, cell_below hg.below z4, cell_below hg.below z5⟩, hg⟩⟩
      go_region_held3 (fun W' => (W'.cell? ⟨b, off + i * 6, none⟩ = some (.string p) ∧ W'.cell? ⟨b, off + i * 6 + 1, none⟩ = some (.int .i64 n) ∧ W'.cell? ⟨b, off + i * 6 + 2, none⟩ = some (.string q) ∧ W'.cell? ⟨b, off + i * 6 + 3, none⟩ = some (.int .i64 m) ∧ W'.cell? ⟨b, off + i * 6 + 4, none⟩ = some (.int .i64 k) ∧ W'.cell? ⟨b, off + i * 6 + 5, none⟩ = some (.bool vv) ∧ W'.cell? ⟨b', off' + i * 6, none⟩ = some (.string p) ∧ W'.cell? ⟨b', off' + i * 6 + 1, none⟩ = some (.int .i64 n) ∧ W'.cell? ⟨b', off' + i * 6 + 2, none⟩ = some (.string q) ∧ W'.cell? ⟨b', off' + i * 6 + 3, none⟩ = some (.int .i64 m) ∧ W'.cell? ⟨b', off' + i * 6 + 4, none⟩ = some (.int .i64 k) ∧ W'.cell? ⟨b', off' + i * 6 + 5, none⟩ = some (.bool vv)) ∧ Gr wr W') (exact HSK.out _ (by repeat (first | assumption | exact Gr.refl _ | refine Gr.drew ?_ | refine Gr.alloc ?_ _))) (fail)
      rename_i hlast
      have hgr := hlast.2
      have HG := Aside0.mk hgr
      clear hlast hgr
      go_wp2_with fail
      go_roundw
      case measure => show l.length - (i + 1) < l.length - i; omega
      case rel => exact ⟨i + 1, by first | rfl | (simp; done), by omega, ⟨HI.out.trans HG.out⟩⟩
    · have d1 : decide (((i : Nat) : Int) < ((l.length : Nat) : Int)) = false := decide_eq_false (by omega)
      go_wp2_with fail
      go_ret
      exact ⟨rfl, HI.out⟩
end Go.Proofs.YtknpkfjaffhejaaGreat

namespace Go.Proofs.YtknpkfjaffhejaaGreat
open Go.RowKit Go.Shelf Go.Sort Go.Proofs.YtknpkfjaffhejaaGreatW.PrintWords Go.Proofs.YtknpkfjaffhejaaGreatW.PrintLast Go.Proofs.YtknpkfjaffhejaaGreatW.PrintMore
set_option linter.unusedVariables false
set_option linter.unusedSimpArgs false

theorem Frm.setCell {W : World} {g m : Nat} (h : Frm W g m) (p : Addr) (v : Value) : Frm (W.setCell p v) g m := fun j hj => by
  obtain ⟨h1, h2⟩ := h j hj
  obtain ⟨u, hu⟩ := Option.isSome_iff_exists.1 h1
  obtain ⟨v', hv⟩ := cell?_setCell_some (p := p) (x := v) hu
  exact ⟨by rw [hv]; rfl, by rw [World.frozen?_setCell]; exact h2⟩
theorem Frm.keep {W W' : World} {g m : Nat} (h : Frm W g m) (hb : W'.heap[g]? = W.heap[g]?) : Frm W' g m := fun j hj => by
  rw [World.cell?_of_block hb, World.frozen?_of_block hb]
  exact h j hj
theorem Frm.below {W W' : World} {g m : Nat} (h : Frm W g m) (hb : Below W.heap.size W W') : Frm W' g m := fun j hj => by
  obtain ⟨h1, h2⟩ := h j hj
  obtain ⟨u, hu⟩ := Option.isSome_iff_exists.1 h1
  have hk := hb.block g (World.block_lt_of_cell? W _ hu)
  rw [World.cell?_of_block hk, World.frozen?_of_block hk]
  exact ⟨h1, h2⟩
theorem owns_frm {W : World} {base : Nat} {e : TypeId} {size : Nat} {v : Value} {n : Nat} {xs : List Value} (h : W.ownsRow base e size v n xs) (hn : n ≠ 0) : ∃ g c, v = .slice (some ⟨g, 0, none⟩) n c ∧ base ≤ g ∧ Frm W g (n * size) := by
  obtain ⟨q, ⟨rfl, rfl⟩ | ⟨g, cap, cur, rfl, a2, a3, a4, a5, a6, a7⟩⟩ := h
  · exact absurd rfl hn
  · refine ⟨g, cap, rfl, a2, fun j hj => ?_⟩
    have : n * size ≤ cap * size := Nat.mul_le_mul_right _ a4
    rw [blk_cell a3, Array.getElem?_eq_getElem (by omega)]
    exact ⟨rfl, blk_frozen a3 _⟩

/-- What writing over leaves: what lies below a block, the blocks from one number to another, and that cells are there. -/
structure Sp (b n3 n4 : Nat) (U W : World) : Prop where
  below : Below b U W
  mid : ∀ k, n3 ≤ k → k < n4 → W.heap[k]? = U.heap[k]?
  frm : ∀ g m, Frm U g m → Frm W g m
theorem Sp.refl (b n3 n4 : Nat) (U : World) : Sp b n3 n4 U U := ⟨Below.refl _ _, fun _ _ _ => rfl, fun _ _ h => h⟩
theorem Sp.trans {b n3 n4 : Nat} {A B C : World} (h : Sp b n3 n4 A B) (k : Sp b n3 n4 B C) : Sp b n3 n4 A C :=
  ⟨h.below.trans k.below, fun i a c => (k.mid i a c).trans (h.mid i a c), fun g m x => k.frm g m (h.frm g m x)⟩
theorem Sp.set {b n3 n4 : Nat} {U W : World} (h : Sp b n3 n4 U W) {g : Nat} (hg : b ≤ g) (hk : g < n3 ∨ n4 ≤ g) (j : Nat) (v : Value) : Sp b n3 n4 U (W.setCell ⟨g, j, none⟩ v) :=
  h.trans ⟨(Below.refl _ _).setCell hg v, fun k a c => Below.heap_setCell _ _ _ _ (by show k ≠ g; omega), fun g' m x => x.setCell _ _⟩
theorem Sp.sets {b n3 n4 g : Nat} (hg : b ≤ g) (hk : g < n3 ∨ n4 ≤ g) : ∀ (vs : List Value) (o : Nat) (U W : World), Sp b n3 n4 U W → Sp b n3 n4 U (W.setCells g o vs)
  | [], _, _, _, h => h
  | v :: r, o, U, W, h => Sp.sets hg hk r (o + 1) U _ (h.set hg hk o v)

/-- A row of edges with room for two behind it. -/
def Rm (W : World) (b : Nat) (l : List Edge) : Prop := (∀ j u, (flatE (l ++ [zrE, zrE]))[j]? = some u → W.cell? ⟨b, j, none⟩ = some u) ∧ Frm W b ((l.length + 2) * 6)
theorem Rm.below {W W' : World} {b : Nat} {l : List Edge} (h : Rm W b l) (hb : Below W.heap.size W W') : Rm W' b l := ⟨fun j u hj => cell_below hb (h.1 j u hj), h.2.below hb⟩
theorem Rm.ed {W : World} {b : Nat} {l : List Edge} (h : Rm W b l) (c : Nat) : EdR b W (.slice (some ⟨b, 0, none⟩) l.length c) l :=
  ⟨_, c, rfl, fun _ => ⟨b, 0, rfl, Nat.le_refl _, fun j u hj => by
    rw [Nat.zero_add]
    refine h.1 j u ?_
    rw [flatE_app, List.getElem?_append_left (List.getElem?_eq_some_iff.1 hj).1]
    exact hj⟩⟩
theorem Rm.spare {W : World} {b : Nat} {l : List Edge} (h : Rm W b l) (j : Nat) (u : Value) (hj : (encE zrE)[j]? = some u) : W.cell? ⟨b, l.length * 6 + j, none⟩ = some u := by
  refine h.1 _ u ?_
  rw [flatE_app, List.getElem?_append_right (by rw [flatE_len]; omega), flatE_len, Nat.add_sub_cancel_left]
  show (flatE ([zrE] ++ [zrE]))[j]? = some u
  rw [flatE_app, flatE_one1, List.getElem?_append_left (List.getElem?_eq_some_iff.1 hj).1]
  exact hj

theorem make_x (w : World) (n : Nat) (hn : n ≤ 1048580) : Sem.run Tryz.prog (Instr.makeSlice 22 (.int .i64 0) (.int .i64 (n : Int))) w = .ok (.slice (some ⟨w.heap.size, 0, none⟩) 0 n) (w.alloc (.cells (madeCells (encE zrE).toArray (n * 6)) 39)) := by
  obtain ⟨i0, hi0, hz0, hz1, hz2⟩ := info_parts info31s
  have h := run_make (P := Tryz.prog) w 22 39 i0 _ Tryz.underlying22 hi0 hz0 .i64 .i64 0 (n : Int) (by omega) (by omega) (by rw [hz2]; omega) (by omega)
  rw [hz1] at h
  simpa [Value.cells] using h
theorem append_x (w : World) (b : Nat) (l : List Edge) (ao : Option Addr) (c : Nat) (hb : ∃ cs, w.heap[b]? = some (.cells cs 39 (0, 0)) ∧ cs.size = (l.length + 2) * 6) (h0 : ao = none → l = [])
    (hc : ∀ ad, ao = some ad → ∀ j u, (flatE l)[j]? = some u → w.cell? (ad.add j) = some u) (ty : TypeId) :
    Sem.run Tryz.prog (Builtin.append_ #[22, 22] ty #[.slice (some ⟨b, 0, none⟩) 0 (l.length + 2), .slice ao l.length c]) w = .ok (.slice (some ⟨b, 0, none⟩) l.length (l.length + 2)) (w.setCells b 0 (flatE l)) := by
  obtain ⟨i0, hi0, hz0, hz1, hz2⟩ := info_parts info31s
  obtain ⟨cs, h1, h2⟩ := hb
  cases ao with
  | none =>
    obtain rfl := h0 rfl
    simp [Builtin.append_, run_underlying Tryz.underlying22, sizeOf, typeInfo, hi0, Builtin.lenOf, Builtin.firstCells, storeCells, flatE, World.setCells]
  | some ad =>
    have := run_append_room_cells (P := Tryz.prog) (w := w) 22 ty 39 i0 Tryz.underlying22 hi0 b 0 0 (l.length + 2) ad l.length c (flatE l) (by rw [flatE_len, hz1]) (hc ad rfl) (flatE_one l) (by omega)
      (fun j hj => by
        rw [flatE_len] at hj
        rw [Nat.zero_mul, Nat.zero_add, blk_cell h1, Array.getElem?_eq_getElem (by omega)]
        rfl)
      (fun j hj => blk_frozen h1 _)
    simpa using this
theorem made_get (n j : Nat) (u : Value) (hj : (flatE (List.replicate n zrE))[j]? = some u) : (madeCells (encE zrE).toArray (n * 6))[j]? = some u := by
  have hlt : j < n * 6 := by
    have := (List.getElem?_eq_some_iff.1 hj).1
    rw [flatE_len, List.length_replicate] at this
    exact this
  rw [flatE_get _ _ (by rw [List.length_replicate]; exact hlt), getElem!_pos _ _ (by rw [List.length_replicate]; omega), List.getElem_replicate] at hj
  unfold madeCells
  rw [Array.getElem?_map, Array.getElem?_range, if_pos hlt]
  simp only [Option.map_some]
  have h6 : (encE zrE).toArray.size = 6 := rfl
  rw [h6, ← hj]
  have hm : j % 6 < 6 := Nat.mod_lt _ (by omega)
  rw [getElem!_pos (encE zrE).toArray (j % 6) (by rw [h6]; exact hm)]
  rw [List.getElem?_eq_getElem (by rw [encE_len]; exact hm)]
  simp
theorem room_x (w : World) (b : Nat) (l : List Edge) (hn : w.heap[b]? = some (.cells (madeCells (encE zrE).toArray ((l.length + 2) * 6)) 39 (0, 0))) : Rm (w.setCells b 0 (flatE l)) b l := by
  refine ⟨fun j u hj => ?_, fun j hj => ?_⟩
  · have hall : ∀ j, j < (flatE l).length → (w.cell? ⟨b, 0 + j, none⟩).isSome = true := fun j hj => by
      rw [flatE_len] at hj
      rw [blk_cell hn, Array.getElem?_eq_getElem (by rw [size_madeCells]; omega)]
      rfl
    rw [flatE_app] at hj
    by_cases hlt : j < (flatE l).length
    · rw [List.getElem?_append_left hlt] at hj
      have := World.cell?_setCells_in b (flatE l) 0 _ hall j hlt
      rw [Nat.zero_add] at this
      rw [this, ← hj]
      exact (List.getElem?_eq_getElem hlt).symm
    · rw [World.cell?_setCells_out _ _ _ _ _ (fun _ _ => .inr (by show 0 + (flatE l).length ≤ j; omega)), blk_cell hn]
      refine made_get _ _ _ ?_
      have hr : List.replicate (l.length + 2) zrE = List.replicate l.length zrE ++ [zrE, zrE] := by rw [← List.replicate_append_replicate]; rfl
      rw [hr, flatE_app]
      have hl : (flatE (List.replicate l.length zrE)).length = (flatE l).length := by rw [flatE_len, flatE_len, List.length_replicate]
      rw [List.getElem?_append_right (by omega), hl]
      rw [List.getElem?_append_right (by omega)] at hj
      exact hj
  · have hfr : Frm w b ((l.length + 2) * 6) := fun j hj => by
      rw [blk_cell hn, Array.getElem?_eq_getElem (by rw [size_madeCells]; exact hj)]
      exact ⟨rfl, blk_frozen hn _⟩
    exact (Sp.sets (b := 0) (n3 := 0) (n4 := 0) (Nat.zero_le _) (.inr (Nat.zero_le _)) (flatE l) 0 _ _ (Sp.refl _ _ _ _)).frm _ _ hfr j hj
theorem store_x (W : World) (b i m : Nat) (h : Frm W b m) (hi : (i + 1) * 6 ≤ m) (x : Edge) : Sem.run Tryz.prog (storeCells ⟨b, i * 6, none⟩ (encE x) 0) W = .ok () (W.setCells b (i * 6) (encE x)) := by
  have := run_storeCells_cells (P := Tryz.prog) b (i * 6) (encE x) 0 W (fun c hc => by rw [encE_len] at hc; exact (h _ (by omega)).1) (fun c hc => by rw [encE_len] at hc; exact (h _ (by omega)).2) (encE_one x)
  rw [Nat.add_zero] at this
  exact this

/-- A world, cut back. -/
def cutW (W : World) (n : Nat) : World := { W with heap := W.heap.extract 0 n }
theorem cutW_size (W : World) (n : Nat) (h : n ≤ W.heap.size) : (cutW W n).heap.size = n := by simp [cutW]; omega
theorem cutW_get (W : World) (n k : Nat) (h : n ≤ W.heap.size) (hk : k < n) : (cutW W n).heap[k]? = W.heap[k]? := by
  simp [cutW, Array.getElem?_extract, hk]
  omega
theorem cutW_below (W : World) (n : Nat) (h : n ≤ W.heap.size) : Below n (cutW W n) W := ⟨rfl, rfl, rfl, by rw [cutW_size W n h]; exact h, fun k hk => (cutW_get W n k h hk).symm⟩
theorem DgAt.move {n0 : Nat} {V : List Edge} {f : Value} {W W' : World} (h : DgAt n0 V f W) (hk : ∀ k, n0 ≤ k → k < W.heap.size → W'.heap[k]? = W.heap[k]?) : DgAt n0 V f W' := by
  obtain ⟨b1, b3, bm, v, base, rfl, h1, h3, hm, hb, hn1, hn3, hE, n, ks, g, q1, q2, q3, q4, q5⟩ := h
  refine ⟨b1, b3, bm, v, base, rfl, h1, h3, hm, hb, (hk _ h1 (blk_lt hn1)).trans hn1, (hk _ h3 (blk_lt hn3)).trans hn3, hE.keep (fun k a b _ => hk k a b), n, ks, g, q1, q2, q3.below (hk _ hm q3.lt), fun s hs => ?_, q5⟩
  obtain ⟨e1, e2⟩ := q4 s hs
  refine ⟨e1, ?_⟩
  rcases e2 with e2 | ⟨gg, cap, cur, a1, a2, a3, a4⟩
  · exact .inl e2
  · exact .inr ⟨gg, cap, cur, a1, a2, (hk gg (by omega) (blk_lt a3)).trans a3, a4⟩

/-- What the loop over the dangers keeps. -/
def OwI (U : World) (B5 : Nat) (pre : List DD) (W' : World) : Prop := (∃ v, Boxed W' B5 40 v ∧ W'.ownsRow U.heap.size 42 12 v pre.length (flatD (val1 pre)) ∧ True) ∧ U.grownBy W' (some B5)
theorem OwI_own (U : World) (B5 : Nat) : OwnFrom U.heap.size (OwI U B5) :=
  OwnFrom.and ((holdsRow_own U.heap.size B5 40 42 12 (fun pre : List DD => pre.length) (fun pre => flatD (val1 pre)) (fun _ _ => True)).from _) (ownFrom_grown U B5)
theorem ow_step {U W w1 : World} {n3 n4 B5 : Nat} {t e : TypeId} {size n m : Nat} {v v' : Value} {xs ys : List Value} {tmp : Obj} (hb : n4 ≤ B5) (hU : n4 ≤ U.heap.size) (hbx : Boxed W B5 t v) (hte : t ≠ e) (ht : t ≠ 39) (he : e ≠ 39) (how : W.ownsRow U.heap.size e size v n xs) (hg : U.grownBy W (some B5))
    (hown : w1.ownsRow U.heap.size e size v' m ys) (hgrow : (W.alloc tmp).grownBy w1 v.ownBlock) :
    Boxed w1 B5 t v ∧ Boxed (w1.setCell ⟨B5, 0, none⟩ v') B5 t v' ∧ (w1.setCell ⟨B5, 0, none⟩ v').ownsRow U.heap.size e size v' m ys ∧ U.grownBy (w1.setCell ⟨B5, 0, none⟩ v') (some B5) ∧ KeepsOthers W (w1.setCell ⟨B5, 0, none⟩ v') ∧ KpE n3 n4 W (w1.setCell ⟨B5, 0, none⟩ v') := by
  have hv1 : Boxed w1 B5 t v := (hbx.alloc tmp).kept hgrow (hbx.not_row hte how)
  have hrow := (how.alloc tmp).lt
  have hsz := hg.size
  refine ⟨hv1, hv1.set v', hown.kept (grownBy_setCell' w1 B5 v') (.inr (hv1.not_row hte hown).symm), ?_, ?_, ?_, ?_⟩
  · exact grown_step (grown_step (grown_step hg (World.grownBy_alloc W tmp none) (fun r e => by cases e)) hgrow (fun r e => Or.inl (hrow r e).1)) (grownBy_setCell' w1 B5 v') (fun r e => Or.inr (by injection e with e; exact e.symm))
  · refine ((KeepsOthers.alloc W tmp).trans (KeepsOthers.of_grownBy hgrow fun j o ej hj => ?_)).trans (KeepsOthers.setCell _ _ _)
    rcases (how.alloc tmp).2 with ⟨rfl, _⟩ | ⟨g, cap, cur, rfl, _, hgb, _⟩
    · simp [Value.ownBlock] at ej
    · obtain rfl : g = j := by simpa [Value.ownBlock] using ej
      rw [hgb] at hj; cases hj; rfl
  · intro k h1 h2
    refine (Below.heap_setCell _ _ _ _ (by show k ≠ B5; omega)).trans ((hgrow.block k (by rw [World.size_alloc]; omega) (fun e => ?_)).trans (Below.heap_alloc _ _ _ (by omega)))
    have := (hrow k e.symm).1
    omega
  · intro k cs fr hk
    have hlt := blk_lt hk
    have h1 : (W.alloc tmp).heap[k]? = some (.cells cs 39 fr) := (Below.heap_alloc _ _ _ hlt).trans hk
    refine (Below.heap_setCell _ _ _ _ (fun e => ?_)).trans ((hgrow.block k (by rw [World.size_alloc]; omega) (owns_no31 (how.alloc tmp) he h1)).trans (Below.heap_alloc _ _ _ hlt))
    have e : k = B5 := e
    subst e
    rw [show W.heap[k]? = _ from hbx] at hk
    injection hk with hk
    injection hk with _ hk
    exact ht hk
theorem dangF_len (V : List Edge) : ∀ U : List Edge, (dangF V U).length ≤ U.length * V.length
  | [] => by simp [dangF]
  | x :: r => by
    have := dangF_len V r
    have h2 : (grp x.q V).length ≤ V.length := List.length_filter_le _ _
    simp only [dangF, List.flatMap_cons, List.length_append, List.length_map, List.length_cons] at this ⊢
    rw [Nat.succ_mul]
    omega
theorem dang_sq (l : List Edge) : (dangersE (vulE l)).length ≤ l.length * l.length :=
  Nat.le_trans (dangF_len _ _) (Nat.mul_le_mul (vulE_len l) (vulE_len l))

/-- A range over the dangers, with the frame's slots as an array that is named once. -/
theorem range_P {g : Operand} {ps : Array Tmp} {assign body : Code} {Q : Exit → Act → World → Prop} {T : Array Value} {Dl : List Deferred} {w w0 : World} {n n0 n4 : Nat} (h1 : 1 ≤ n)
    {lb : Array Value} (hg : ({ tmps := T, defers := Dl } : Act).eval g = .func (.func 30) #[] lb)
    {S Sp' : List DD → Prop} {N : Nat} (hseq : SeqStopsK Fence.wide (n - 1) Tryz.prog 30 lb (fun x : DD => #[.agg (encD x.1).toArray]) (KpE n0 n4) S Sp' N w0) (hb0 : Below w0.heap.size w0 w) (h4 : n4 ≤ w.heap.size) (hps : ps.size = 1)
    (I : List DD → World → Prop) (hI : OwnFrom w.heap.size I) (h0 : I [] w) (f : Array Value → DD → Nat → Array Value)
    (hassign : ∀ (l : Nat) (pre : List DD) (x : DD) (W : World) (K : Act → World → Prop), I pre W → (∀ Bd W', KeepsFrom w.heap.size W W' → KpE n0 n4 W W' → I pre W' → w.heap.size ≤ Bd → W'.heap[Bd]? = some (.cells (encD x.1).toArray 42 (0, 0)) → K { tmps := f T x Bd, defers := [] } W') →
      assign.wpIn (Fence.wide.inRound l) (n - 1 - 1) Tryz.prog (Exit.then K (fun _ _ _ => False)) { tmps := (ps.zip #[.agg (encD x.1).toArray]).foldl (fun t (p, v) => t.setIfInBounds p v) T, defers := [] } W)
    (hbody : ∀ (l : Nat) (pre : List DD) (x : DD) (Bd : Nat) (W : World), w.heap.size ≤ l → (∃ r, W.heap[l]? = some (.loop r)) → I pre W → w.heap.size ≤ Bd → W.heap[Bd]? = some (.cells (encD x.1).toArray 42 (0, 0)) → pre.length < N →
      body.wpIn (Fence.wide.inRound l) (n - 1 - 1) Tryz.prog (ownPostG w.heap.size (KpE n0 n4) I (fun _ _ _ => False) (pre ++ [x]) W) { tmps := f T x Bd, defers := [] } W)
    (hdone : ∀ (D : Nat) (xs : List DD) (W : World), w.heap.size ≤ D → S xs → I xs W → W.heap[D]? = some (.deferred (some [])) → Q .normal { tmps := T, defers := { target := .collected D, args := #[] } :: Dl } W) :
    (Code.rangeFunc g ps assign body).wpIn Fence.wide n Tryz.prog Q { tmps := T, defers := Dl } w :=
  wpIn_rangeFunc_ownH rfl h1 hg trivial (enters_of Tryz.func30 (by kernel_rfl) rfl) hseq KpE.trans
    (fun W l o o' hl h hc _ => ⟨fun k _ hk => World.putObj_heap_other (by omega), fun k cs fr e => World.putObj_heap_other (fun e2 => by subst e2; rw [h] at e; injection e with e; subst e; cases hc)⟩) hb0 (fun _ => hps.symm) I (fun _ _ _ => False) hI (fun c s A B row hs hg hr => hs.elim) h0
    (fun x a' W' => ∃ Bd, w.heap.size ≤ Bd ∧ W'.heap[Bd]? = some (.cells (encD x.1).toArray 42 (0, 0)) ∧ a' = { tmps := f T x Bd, defers := [] })
    (fun x a' s X Y row ⟨Bd, h1, h2, h3⟩ hg hr => ⟨Bd, h1, (hg.block _ (blk_lt h2) (fun e => by
      obtain ⟨o, ho, hc⟩ := (hr _ e.symm).2
      rw [h2] at ho
      cases ho
      cases hc)).trans h2, h3⟩)
    (fun l pre x W K hi hK => hassign l pre x W K hi fun Bd W' a b c d e => hK _ W' a b c ⟨Bd, d, e, rfl⟩)
    (fun l pre x a' W hl hr hi ⟨Bd, h1, h2, h3⟩ hlen => by subst h3; exact hbody l pre x Bd W hl hr hi h1 h2 hlen) hdone (fun D c pre W _ _ hf _ => hf.elim)
end Go.Proofs.YtknpkfjaffhejaaGreat
