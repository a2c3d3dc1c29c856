/- WHAT IS PROVED: Tracked hands back the sites at which dangers begin, in order. -/
import Derived.Test.YtknpkfjaffhejaaGreatPv
import Derived.Test.YtknpkfjaffhejaaGreatSq
import Derived.RegionIn
namespace Go.Proofs.YtknpkfjaffhejaaGreat
open Go.RowKit Go.Shelf Go.Sort Go.Proofs.YtknpkfjaffhejaaGreatW.PrintWords Go.Proofs.YtknpkfjaffhejaaGreatW.PrintLast Go.Proofs.YtknpkfjaffhejaaGreatW.PrintMore
attribute [local go_sem] Oper.semAt_some
set_option linter.unusedVariables false
set_option linter.unusedSimpArgs false

/-- The sites at which dangers begin. -/
def trk (D : List (Edge × Edge)) : List SI := D.flatMap fun x => [(x.1.p, x.1.n), (x.2.p, x.2.n)]
theorem trk_snoc (D : List (Edge × Edge)) (x : Edge × Edge) : trk (D ++ [x]) = trk D ++ [(x.1.p, x.1.n)] ++ [(x.2.p, x.2.n)] := by simp [trk]
theorem mem_trk {D : List (Edge × Edge)} {s : SI} : s ∈ trk D ↔ ∃ x ∈ D, s = (x.1.p, x.1.n) ∨ s = (x.2.p, x.2.n) := by simp [trk]

theorem mem_dangers {V : List Edge} {x : Edge × Edge} (h : x ∈ dangersE V) : x.1 ∈ V ∧ x.2 ∈ V := by
  unfold dangersE dangF at h
  rw [List.mem_flatMap] at h
  obtain ⟨y, hy, h⟩ := h
  obtain ⟨z, hz, rfl⟩ := List.mem_map.1 h
  exact ⟨hy, (List.mem_filter.1 hz).1⟩
theorem SiR.putObj {W : World} {v : Value} {l : List SI} {D : Nat} {x : Option (List Deferred)} (h : SiR W v l) (o : Obj) (hD : W.heap[D]? = some (.deferred x)) : SiR (W.putObj D o) v l := by
  obtain ⟨A, c, rfl, hA⟩ := h
  refine ⟨A, c, rfl, fun hl => ?_⟩
  obtain ⟨b, off, rfl, hc⟩ := hA hl
  refine ⟨b, off, rfl, fun j u hj => ?_⟩
  have h1 := hc j u hj
  have hne : b ≠ D := fun e => by
    subst e
    simp [World.cell?, hD] at h1
  exact (World.cell?_of_block (World.putObj_heap_other hne)).trans h1

/-- What the loop keeps. -/
def TkI (U : World) (Bm : Nat) (pre : List DD) (W' : World) : Prop := CntAt 37 encI okI W' Bm (pre.length * 2) (trk (val1 pre)) ∧ U.grownBy W' (some Bm)
theorem TkI_own (U : World) (Bm : Nat) (hb : Bm < U.heap.size) : OwnFrom U.heap.size (TkI U Bm) :=
  OwnFrom.and (fun s A B row hs hg hr => hs.kept hg (fun e => by have := (hr _ e.symm).1; omega)) (ownFrom_grown U Bm)

theorem wrap_c (c : Nat) (h : c + 1 < 9223372036854775807) : IntKind.i64.wrap ((c : Int) + 1) = (c : Int) + 1 := by
  have := wrap_small (c + 1) (by omega)
  exact this
set_option maxRecDepth 100000 in
/-- One count more, at a site. -/
theorem cnt_entry {Wn : World} {Bm n : Nat} {l : List SI} {U : World} (h : CntAt 37 encI okI Wn Bm n l) (hg : U.grownBy Wn (some Bm)) (hn : n < maxLen) {x : SI} (hx : okI x) :
    ∃ (c : Nat) (v0 : Value) (st : Nat) (We Wf : World), c ≤ n ∧ Sem.run Tryz.prog (Instr.lookup 50 (.map (some Bm)) (encI x) false) Wn = .ok (.int .i64 (c : Nat)) Wn ∧
      Sem.run Tryz.prog (Instr.mapEntry 50 (.map (some Bm)) (encI x)) Wn = .ok (.tuple #[v0, goInt st]) We ∧
      Sem.run Tryz.prog (Instr.lookup 50 (.map (some Bm)) (encI x) false) We = .ok (.int .i64 (c : Nat)) We ∧
      Sem.run Tryz.prog (Instr.entryStore 50 (.map (some Bm)) (goInt st) (.int .i64 ((c : Int) + 1))) We = .ok () Wf ∧
      CntAt 37 encI okI Wf Bm (n + 1) (l ++ [x]) ∧ U.grownBy Wf (some Bm) ∧ Wn.grownBy We (some Bm) ∧ Wn.grownBy Wf (some Bm) := by
  obtain ⟨ks, g, hm, hks, hg0⟩ := h
  obtain ⟨c, hc, hgc⟩ := hg0 x hx
  have t51 := Tryz.underlying50
  obtain ⟨v0, st, We, Wf, r1, m1, g1, r2, m2, g2⟩ := hm.entry t51 zv3 hn hx (.int .i64 ((c : Int) + 1))
  have hl0 := hm.look keyI t51 (zv3 _) hx
  have hl1 := m1.look keyI t51 (zv3 _) hx
  rw [upd_same, hgc] at hl1
  rw [hgc] at hl0
  exact ⟨c, v0, st, We, Wf, hc, hl0, r1, hl1, r2, cnt_step hks hg0 hc m2, grown_step hg g2 (fun r e => Or.inr (by injection e with e; exact e.symm)), g1, g2⟩
theorem CntAt.drew {Wn : World} {Bm n : Nat} {l : List SI} (h : CntAt 37 encI okI Wn Bm n l) : CntAt 37 encI okI Wn.drew Bm n l := h.kept (grownBy_drew (grownBy_refl Wn none)) (by simp)

set_option maxRecDepth 100000 in
set_option maxHeartbeats 16000000 in
theorem tracked_calls (W : World) (v : Value) (l : List Edge) {m0 : Nat} (h : EdR m0 W v l) (hn : l.length ≤ 1048576) (hs : ∀ e ∈ l, okE e) :
    Calls Tryz.prog 7 #[v] W fun e W' => ∃ (v' : Value) (sites : List SI), e = .returned v' ∧ SiR W' v' sites ∧ sites.Pairwise (fun x y => ltOf cmpSite x y = true) ∧ (∀ s, s ∈ sites ↔ s ∈ trk (dangersE (vulE l))) ∧ Below W.heap.size W W' := by
  have h' := h
  obtain ⟨A, c, rfl, _⟩ := h'
  have hmm := @run_makeMap Tryz.prog
  have e1 : (W.alloc (.map #[] 0)).heap.size = W.heap.size + 1 := by simp
  have e2 : ((W.alloc (.map #[] 0)).alloc (.cells #[.map (some W.heap.size)] 50)).heap.size = W.heap.size + 2 := by simp
  have hb1 := below_mk (below_mk (Below.refl W.heap.size W) (.map #[] 0)) (.cells #[.map (some W.heap.size)] 50)
  have HC := Aside0.mk (dangers0_calls ((W.alloc (.map #[] 0)).alloc (.cells #[.map (some W.heap.size)] 50)) _ l (h.below hb1) hn (fun e he => (hs e he).1))
  have hn0 : CntAt 37 encI okI ((W.alloc (.map #[] 0)).alloc (.cells #[.map (some W.heap.size)] 50)) W.heap.size 0 [] := (CntAt.made W).kept (World.grownBy_alloc _ _ none) (by simp)
  have hn1 : ((W.alloc (.map #[] 0)).alloc (.cells #[.map (some W.heap.size)] 50)).heap[W.heap.size + 1]? = some (.cells #[.map (some W.heap.size)] 50 (0, 0)) := by
    rw [← e1]
    exact heap_alloc_new _ _
  have HB1 := Aside0.mk hb1
  have HN0 := Aside0.mk (And.intro hn0 hn1)
  have HV := Aside0.mk (vulE_ok hs)
  have HVL : Aside0 ((vulE l).length ≤ 1048576) := ⟨Nat.le_trans (vulE_len l) hn⟩
  have HE1 := Aside0.mk e2
  clear h hb1 hs e1 e2 hn0 hn1
  refine (callsIn_wide (n := 5)).1 ?_
  refine callsIn_of_wp_marks Tryz.func7 rfl trivial ?_ rfl
  simp only [Tryz.ntmps7, List.size_toArray, List.length_cons, List.length_nil, Nat.reduceAdd, Nat.reduceSub, Array.replicate_succ, Array.replicate_zero, List.push_toArray, List.append_toArray, List.nil_append, List.cons_append]
  gi_wp2_with fail
  refine ⟨trivial, (callsIn_wide.2 HC.out).mono ?_⟩
  rintro e U ⟨hbU, f, rfl, hD⟩
  obtain ⟨b1, b3, rfl⟩ := hD.form
  have hE := HE1.out
  rw [hE] at hbU hD
  have hU := hD.lt
  have hnU0 : CntAt 37 encI okI U W.heap.size 0 [] := by
    obtain ⟨ks, g, q1, q2, q3⟩ := HN0.out.1
    exact ⟨ks, g, q1.below (hbU.block _ (by omega)), q2, q3⟩
  have hnU1 := (hbU.block (W.heap.size + 1) (by omega)).trans HN0.out.2
  have hB0 : Below W.heap.size W U := HB1.out.trans (hbU.mono (by omega))
  have HD := Aside0.mk hD
  have HB0 := Aside0.mk hB0
  have HNU := Aside0.mk (And.intro hnU0 hnU1)
  clear hbU hD hnU0 hnU1 hB0 HB1 HN0
  gi_wp2_with fail
  have hgU := grownBy_refl U (some W.heap.size)
  refine wpIn_rangeFunc_ownH (F := Fence.wide) rfl (by omega) (gf := 30) (lb := #[.pointer (some ⟨b1, 0, none⟩), .pointer (some ⟨b3, 0, none⟩)]) rfl trivial (enters_of Tryz.func30 (by kernel_rfl) rfl)
    (dg_stops HD.out HV.out HVL.out _) KpE.trans kpE_b (Below.refl _ _) (fun _ => rfl)
    (TkI U W.heap.size) (fun c pre W' => False)
    (TkI_own _ _ (by omega)) (fun c s A B row hs hg hr => hs.elim) ?h0
    (fun x a' W' => ∃ Bd, U.heap.size ≤ Bd ∧ W'.heap[Bd]? = some (.cells (encD x.1).toArray 42 (0, 0)) ∧ a' = { tmps := #[Value.slice A l.length c, undef, .slice none 0 0, .pointer (some ⟨W.heap.size + 1, 0, none⟩), .pointer (some ⟨Bd, 0, none⟩), .map (some W.heap.size), .slice A l.length c, .func (.func 30) #[] #[.pointer (some ⟨b1, 0, none⟩), .pointer (some ⟨b3, 0, none⟩)], .agg (encD x.1).toArray, undef, undef, undef, undef, undef, undef, undef, undef, undef, undef, undef, undef, undef, undef, undef, undef, undef, undef, undef], defers := [] })
    ?hAx ?assign ?body ?done ?stop
  case h0 => exact ⟨HNU.out.1, hgU⟩
  case hAx =>
    rintro x a' s X Y row ⟨Bd, h1, h2, h3⟩ hg hr
    exact ⟨Bd, h1, (hg.block _ (blk_lt h2) (fun e => by
      obtain ⟨o, ho, hc⟩ := (hr _ e.symm).2
      rw [h2] at ho
      cases ho
      cases hc)).trans h2, h3⟩
  case assign =>
    rintro lp pre x W2 K hI hK
    have hst : Sem.run Tryz.prog (storeCells ⟨W2.heap.size, 0, none⟩ (encD x.1) 0) (W2.alloc (.cells #[.string ⟨#[]⟩, .int .i64 0, .string ⟨#[]⟩, .int .i64 0, .int .i64 0, .bool false, .string ⟨#[]⟩, .int .i64 0, .string ⟨#[]⟩, .int .i64 0, .int .i64 0, .bool false] 42)) = .ok () (W2.alloc (.cells (encD x.1).toArray 42)) := storeNewD W2 x.1
    have hl12 : (encD x.1).length = 12 := rfl
    have HI := Aside0.mk hI
    have HK := Aside0.mk hK
    clear hI hK
    gi_wp2_with fail
    exact HK.out _ _ ((KeepsOthers.alloc _ _).from _) (KpE.below (below_mk (Below.refl _ W2) _) HI.out.2.size) (TkI_own _ _ (by omega) pre W2 _ none HI.out (World.grownBy_alloc W2 _ none) (fun r e => by cases e)) ⟨_, HI.out.2.size, heap_alloc_new W2 _, rfl⟩
  case body =>
    rintro lp pre ⟨⟨⟨p, n, q, m0', k, v⟩, ⟨p', n', q', m', k', v'⟩⟩, hx⟩ a' W2 hl ⟨r, hr⟩ ⟨hcnt, hg⟩ ⟨Bd, hd1, hd2, rfl⟩ hlen
    have hd3 : W2.heap[Bd]? = some (.cells #[.string p, .int .i64 n, .string q, .int .i64 m0', .int .i64 k, .bool v, .string p', .int .i64 n', .string q', .int .i64 m', .int .i64 k', .bool v'] 42 (0, 0)) := hd2
    have hdl := dangers_len (vulE l) HVL.out
    obtain ⟨es, cl, hmb⟩ : ∃ es cl, W2.heap[W.heap.size]? = some (.map es cl) := by
      obtain ⟨_, _, hm, _⟩ := hcnt
      exact hm.block
    obtain ⟨c1, v1, st1, We1, Wf1, hc1, l1, r1, l1', s1, k1, g1, ge1, gf1⟩ := cnt_entry hcnt.drew (grownBy_drew hg) (by unfold maxLen; omega) (x := (p, n)) ⟨hx.1.1, hx.1.2.2.1⟩
    obtain ⟨c2, v2, st2, We2, Wf2, hc2, l2, r2, l2', s2, k2, g2, ge2, gf2⟩ := cnt_entry k1.drew (grownBy_drew g1) (by unfold maxLen; omega) (x := (p', n')) ⟨hx.2.1, hx.2.2.2.1⟩
    have hne1 : Bd ≠ W.heap.size := fun e => by rw [e, hmb] at hd3; cases hd3
    have HBK : Aside0 (∀ W', W2.grownBy W' (some W.heap.size) → (W'.cell? ⟨W.heap.size + 1, 0, none⟩ = some (.map (some W.heap.size)) ∧ W'.cell? ⟨Bd, 0, none⟩ = some (.string p) ∧ W'.cell? ⟨Bd, 1, none⟩ = some (.int .i64 n) ∧ W'.cell? ⟨Bd, 6, none⟩ = some (.string p') ∧ W'.cell? ⟨Bd, 7, none⟩ = some (.int .i64 n'))) := ⟨fun W' hg' => by
      have e1 := (hg'.block Bd (blk_lt hd3) (fun e => hne1 (by injection e))).trans hd3
      have e3 := (hg'.block (W.heap.size + 1) (by have := hg.size; omega) (by simp)).trans ((hg.block (W.heap.size + 1) (by omega) (by simp)).trans HNU.out.2)
      exact ⟨(blk_cell e3 0).trans rfl, (blk_cell e1 0).trans rfl, (blk_cell e1 1).trans rfl, (blk_cell e1 6).trans rfl, (blk_cell e1 7).trans rfl⟩⟩
    have q0 : W2.grownBy W2.drew (some W.heap.size) := grownBy_drew (grownBy_refl _ _)
    have q1 : W2.grownBy We1 (some W.heap.size) := grownBy_trans q0 ge1
    have q2 : W2.grownBy Wf1 (some W.heap.size) := grownBy_trans q0 gf1
    have q3 : W2.grownBy Wf1.drew (some W.heap.size) := grownBy_drew q2
    have q4 : W2.grownBy We2 (some W.heap.size) := grownBy_trans q3 ge2
    have q5 : W2.grownBy Wf2 (some W.heap.size) := grownBy_trans q3 gf2
    obtain ⟨a0, a1, a2, a3, a4⟩ := HBK.out _ q0
    obtain ⟨b0, b1', b2, b3', b4⟩ := HBK.out _ q2
    obtain ⟨c0, c1', c2', c3', c4⟩ := HBK.out _ q3
    have HFIN : Aside0 (KeepsFrom U.heap.size W2 Wf2 ∧ KpE (W.heap.size + 2) U.heap.size W2 Wf2 ∧ TkI U W.heap.size (pre ++ [⟨(⟨p, n, q, m0', k, v⟩, ⟨p', n', q', m', k', v'⟩), hx⟩]) Wf2) := ⟨by
      refine ⟨KeepsFrom.of_grownBy q5 (fun j e => by injection e with e; omega), kpE_map (by omega) hg.size q5 ⟨es, cl, hmb⟩, ?_, g2⟩
      have e : trk (val1 (pre ++ [(⟨(⟨p, n, q, m0', k, v⟩, ⟨p', n', q', m', k', v'⟩), hx⟩ : DD)])) = trk (val1 pre) ++ [(p, n)] ++ [(p', n')] := by
        rw [show val1 (pre ++ [(⟨(⟨p, n, q, m0', k, v⟩, ⟨p', n', q', m', k', v'⟩), hx⟩ : DD)]) = val1 pre ++ [(⟨p, n, q, m0', k, v⟩, ⟨p', n', q', m', k', v'⟩)] from by simp [val1], trk_snoc]
      rw [e, List.length_append, List.length_singleton, Nat.add_mul]
      exact k2⟩
    have w1 : IntKind.i64.wrap ((c1 : Int) + 1) = (c1 : Int) + 1 := wrap_c c1 (by omega)
    have w2 : IntKind.i64.wrap ((c2 : Int) + 1) = (c2 : Int) + 1 := wrap_c c2 (by omega)
    rw [← w1] at s1
    rw [← w2] at s2
    simp only [encI] at l1 r1 l1' l2 r2 l2'
    simp only [goInt] at r1 s1 r2 s2
    clear w1 w2 hd2 hd3 hlen hdl hg hcnt hmb k1 k2 g1 g2 ge1 ge2 gf1 gf2 q0 q1 q2 q3 q4 q5 hr hc1 hc2
    gi_wp2_with fail
    refine wpIn_mono (Q := fun e a' w' => e = .normal ∧ a' = { tmps := #[Value.slice A l.length c, undef, .slice none 0 0, .pointer (some ⟨W.heap.size + 1, 0, none⟩), .pointer (some ⟨Bd, 0, none⟩), .map (some W.heap.size), .slice A l.length c, .func (.func 30) #[] #[.pointer (some ⟨b1, 0, none⟩), .pointer (some ⟨b3, 0, none⟩)], .agg (encD (⟨p, n, q, m0', k, v⟩, ⟨p', n', q', m', k', v'⟩)).toArray, .map (some W.heap.size), .pointer (some ⟨Bd, 0, none⟩), .pointer (some ⟨Bd, 0, none⟩), .agg #[.string p, .int .i64 n], .int .i64 c1, .int .i64 (IntKind.i64.wrap ((c1 : Int) + 1)), .tuple #[v1, .int .i64 st1], .int .i64 st1, undef, undef, undef, undef, undef, undef, undef, undef, undef, undef, undef], defers := [] } ∧ w' = Wf1) ?_ ?_
    · clear l2 r2 l2' s2 b0 b1' b2 b3' b4 c0 c1' c2' c3' c4
      gi_region
      all_goals exact ⟨rfl, rfl, rfl⟩
    · rintro _ _ _ ⟨rfl, rfl, rfl⟩
      clear l1 r1 l1' s1 a0 a1 a2 a3 a4
      gi_wp2_with fail
      refine wpIn_mono (Q := fun e a' w' => e = .normal ∧ a' = { tmps := #[Value.slice A l.length c, undef, .slice none 0 0, .pointer (some ⟨W.heap.size + 1, 0, none⟩), .pointer (some ⟨Bd, 0, none⟩), .map (some W.heap.size), .slice A l.length c, .func (.func 30) #[] #[.pointer (some ⟨b1, 0, none⟩), .pointer (some ⟨b3, 0, none⟩)], .agg (encD (⟨p, n, q, m0', k, v⟩, ⟨p', n', q', m', k', v'⟩)).toArray, .map (some W.heap.size), .pointer (some ⟨Bd, 0, none⟩), .pointer (some ⟨Bd, 0, none⟩), .agg #[.string p, .int .i64 n], .int .i64 c1, .int .i64 (IntKind.i64.wrap ((c1 : Int) + 1)), .tuple #[v1, .int .i64 st1], .int .i64 st1, .map (some W.heap.size), .pointer (some ⟨Bd, 6, none⟩), .pointer (some ⟨Bd, 6, none⟩), .agg #[.string p', .int .i64 n'], .int .i64 c2, .int .i64 (IntKind.i64.wrap ((c2 : Int) + 1)), .tuple #[v2, .int .i64 st2], .int .i64 st2, undef, undef, undef], defers := [] } ∧ w' = Wf2) ?_ ?_
      · gi_region
        all_goals exact ⟨rfl, rfl, rfl⟩
      · rintro _ _ _ ⟨rfl, rfl, rfl⟩
        gi_wp2_with fail
        exact HFIN.out
  case done =>
    rintro D xs W3 hD hxs ⟨hcnt, hg⟩ hK
    obtain ⟨ks, g, hm, hks, _⟩ := hcnt
    have hlen := val1_len xs
    have hxs' : val1 xs = dangersE (vulE l) := hxs
    rw [hxs'] at hks hlen
    have hdl := dangers_len (vulE l) HVL.out
    have c3 := (blk_cell ((hg.block (W.heap.size + 1) (by omega) (by simp)).trans HNU.out.2) 0).trans (show (#[Value.map (some W.heap.size)])[0]? = some (.map (some W.heap.size)) from rfl)
    have HK1 := Aside0.mk (keysI_calls (some W.heap.size) W3)
    have hm4 := hm.kept (World.grownBy_alloc W3 (.cells #[.map (some W.heap.size)] 50) none) (by simp)
    have HK2 := Aside0.mk (sortedI_calls (W3.alloc (.cells #[.map (some W.heap.size)] 50)) (Bm := W3.heap.size) (by simp) (heap_alloc_new W3 _) hm4 (by omega))
    have HKS := Aside0.mk hks
    have hB3 : Below W.heap.size W W3 := HB0.out.trans (grownBy_below hg (by omega) (fun k e => by injection e with e; omega))
    have HB3 := Aside0.mk hB3
    have hD3 := blk_lt hK
    have hb34 := below_mk (Below.refl W3.heap.size W3) (.cells #[.map (some W.heap.size)] 50)
    clear hm hm4 hks hg hxs hxs' hlen hdl hB3
    gi_wp2_with fail
    refine ⟨trivial, (callsIn_wide.2 HK1.out).mono ?_⟩
    rintro e W4 ⟨rfl, rfl⟩
    gi_wp2_with fail
    refine ⟨trivial, (callsIn_wide.2 HK2.out).mono ?_⟩
    rintro e W5 ⟨vv, sites, rfl, hsi, hpw, hok, hmem, hb5⟩
    have hb35 := below_to hb34 hb5
    have hK5 : W5.heap[D]? = some (.deferred (some [])) := (hb35.block D hD3).trans hK
    have HF : Aside0 (SiR (W5.putObj D (.deferred none)) vv sites ∧ sites.Pairwise (fun x y => ltOf cmpSite x y = true) ∧ (∀ s, s ∈ sites ↔ s ∈ trk (dangersE (vulE l))) ∧ Below W.heap.size W (W5.putObj D (.deferred none))) := ⟨by
      refine ⟨hsi.putObj _ hK5, hpw, fun s => ⟨fun hs => (HKS.out s).1 ((hmem s (hok s hs)).1 hs), fun hs => ?_⟩, (HB3.out.trans (hb35.mono HB3.out.size)).trans (belowK_b (w := W) (Nat.le_refl _) W5 D _ _ (by omega) hK5 rfl rfl)⟩
      refine (hmem s ?_).2 ((HKS.out s).2 hs)
      obtain ⟨x, hx, hsx⟩ := mem_trk.1 hs
      obtain ⟨h1, h2⟩ := mem_dangers hx
      have o1 := HV.out _ h1
      have o2 := HV.out _ h2
      rcases hsx with rfl | rfl
      · exact ⟨o1.1, o1.2.2.1⟩
      · exact ⟨o2.1, o2.2.2.1⟩⟩
    obtain ⟨Ao, co, rfl⟩ := hsi.form
    clear hsi hpw hok hmem hb5 hb34 hb35 HK1 HK2
    gi_wp2_with fail
    refine ⟨by simp, .inl ⟨_, _, rfl, run_takeDeferred hK5, ?_⟩⟩
    refine ⟨.slice Ao sites.length co, ?_, ⟨_, sites, rfl, HF.out.1, HF.out.2.1, HF.out.2.2.1, HF.out.2.2.2⟩⟩
    simp [results, Tryz.f7, go_sem]
  case stop =>
    rintro D c pre W3 hD hpre hf hK
    exact hf.elim
end Go.Proofs.YtknpkfjaffhejaaGreat
