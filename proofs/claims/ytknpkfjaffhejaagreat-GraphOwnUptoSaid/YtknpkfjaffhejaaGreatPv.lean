/- WHAT IS PROVED: Pivots hands back the procedures in which a danger meets, in order. -/
import Derived.Test.YtknpkfjaffhejaaGreatDd
import Derived.Test.YtknpkfjaffhejaaGreatKn
import Derived.Maps.OwnIn
namespace Go.Proofs.YtknpkfjaffhejaaGreat
open Go.RowKit Go.Shelf Go.Proofs.YtknpkfjaffhejaaGreatW.PrintWords Go.Proofs.YtknpkfjaffhejaaGreatW.PrintLast Go.Proofs.YtknpkfjaffhejaaGreatW.PrintMore
attribute [local go_sem] Oper.semAt_some
set_option linter.unusedVariables false
set_option linter.unusedSimpArgs false

theorem wpListIn_mapSet {α : Type} {kt : TypeId} {enc : α → Value} {ok : α → Prop} {z : Value} {b n : Nat} {ks : List α} {g : α → Value} (F : Fence) (nF : Nat) (w : World) {ops : Array Oper} {rest : List Oper} {o : Oper} {a : Act} {Q : Exit → Act → World → Prop}
    (hg : o.guard = none) (m x v : Operand) (t : TypeId) (hop : o.op = Op.mapUpdate t m x v) (h : MapAt kt enc ok z w b n ks g) (K : KeyK kt enc ok) {e : TypeId} (ht : Tryz.prog.underlying t = some (.map kt e)) (hn : n < maxLen) {y : α} (hy : ok y) (val : Value)
    (hm : a.eval m = .map (some b)) (hx : a.eval x = enc y) (hv : a.eval v = val)
    (hK : ∀ w', MapAt kt enc ok z w' b (n + 1) (ks ++ [y]) (upd g y val) → w.grownBy w' (some b) → wpListIn F nF Tryz.prog ops Q rest (a.put o.dst undef) w') :
    wpListIn F nF Tryz.prog ops Q (o :: rest) a w := by
  refine wpListIn_plain hg fun K' hK' => ?_
  obtain ⟨w', hrun, r1, r2⟩ := h.update K ht hn hy val
  unfold Oper.wpIn
  refine ⟨by simp [Oper.about, hop], ?_⟩
  rw [Oper.semAt_plain F _ _ (by rw [hop]; intro c hc'; cases hc')]
  simp [execOp, hop, hm, hx, hv, hrun, Result.andThen]
  exact hK' _ _ (hK w' r1 r2)

theorem zv3 (w : World) : (zeroValue 3).run Tryz.prog w = .ok (.int .i64 0) w := Tryz.zeroValue3 w
/-- A counting map. -/
def CntAt {α : Type} (kt : TypeId) (enc : α → Value) (ok : α → Prop) (W' : World) (Bm n : Nat) (l : List α) : Prop :=
  ∃ ks g, MapAt kt enc ok (.int .i64 0) W' Bm n ks g ∧ (∀ s, s ∈ ks ↔ s ∈ l) ∧ ∀ s, ok s → ∃ c : Nat, c ≤ n ∧ g s = .int .i64 (c : Nat)
theorem CntAt.made {α : Type} {kt : TypeId} {enc : α → Value} {ok : α → Prop} (W : World) : CntAt kt enc ok (W.alloc (.map #[] 0)) W.heap.size 0 [] := ⟨[], _, MapAt.made W, fun s => Iff.rfl, fun s _ => ⟨0, Nat.le_refl _, rfl⟩⟩
theorem CntAt.kept {α : Type} {kt : TypeId} {enc : α → Value} {ok : α → Prop} {W W' : World} {Bm n : Nat} {l : List α} {row : Option Nat} (h : CntAt kt enc ok W Bm n l) (hg : W.grownBy W' row) (hne : some Bm ≠ row) : CntAt kt enc ok W' Bm n l := by
  obtain ⟨ks, g, h1, h2, h3⟩ := h
  exact ⟨ks, g, h1.kept hg hne, h2, h3⟩

theorem cnt_step {α : Type} {kt : TypeId} {enc : α → Value} {ok : α → Prop} {W6 : World} {Bm n cc : Nat} {ks l : List α} {g : α → Value} {q : α} (hks : ∀ s, s ∈ ks ↔ s ∈ l) (hg0 : ∀ s, ok s → ∃ c : Nat, c ≤ n ∧ g s = .int .i64 (c : Nat)) (hcc : cc ≤ n)
    (hm : MapAt kt enc ok (.int .i64 0) W6 Bm (n + 1) (ks ++ [q]) (upd g q (.int .i64 ((cc : Int) + 1)))) : CntAt kt enc ok W6 Bm (n + 1) (l ++ [q]) := by
  refine ⟨_, _, hm, fun s => by simp [hks], fun s hs => ?_⟩
  by_cases e : s = q
  · subst e
    exact ⟨cc + 1, by omega, by rw [upd_same]; rfl⟩
  · obtain ⟨c, h1, h2⟩ := hg0 s hs
    exact ⟨c, by omega, by rw [upd_other _ _ e]; exact h2⟩
theorem kpE_map {n0 n1 : Nat} {W W' : World} {Bm : Nat} (hb : Bm < n0) (hn : n1 ≤ W.heap.size) (hg : W.grownBy W' (some Bm)) (hm : ∃ es cl, W.heap[Bm]? = some (.map es cl)) : KpE n0 n1 W W' := by
  refine ⟨fun k h1 h2 => hg.block k (by omega) (fun e => by injection e with e; omega), fun k cs fr hk => hg.block k (blk_lt hk) (fun e => ?_)⟩
  injection e with e
  subst e
  obtain ⟨es, cl, hm⟩ := hm
  rw [hm] at hk
  cases hk

/-- What the loop keeps. -/
def PvI (U : World) (Bm : Nat) (pre : List DD) (W' : World) : Prop := CntAt 9 Value.string okS W' Bm pre.length ((val1 pre).map fun x => x.1.q) ∧ U.grownBy W' (some Bm)
theorem PvI_own (U : World) (Bm : Nat) (hb : Bm < U.heap.size) : OwnFrom U.heap.size (PvI U Bm) :=
  OwnFrom.and (fun s A B row hs hg hr => hs.kept hg (fun e => by have := (hr _ e.symm).1; omega)) (ownFrom_grown U Bm)

set_option maxRecDepth 100000 in
set_option maxHeartbeats 8000000 in
theorem pivots_calls (W : World) (v : Value) (l : List Edge) {m0 : Nat} (h : EdR m0 W v l) (hn : l.length ≤ 1048576) (hs : ∀ e ∈ l, okE e) :
    Calls Tryz.prog 13 #[v] W fun e W' => ∃ (v' : Value) (names : List ByteArray), e = .returned v' ∧ W'.ownsRow W.heap.size 9 1 v' names.length (names.map Value.string) ∧ names.Pairwise (fun x y => blt x y = true) ∧ (∀ s, s ∈ names ↔ s ∈ (dangersE (vulE l)).map fun x => x.1.q) ∧ Below W.heap.size W W' := by
  have h' := h
  obtain ⟨A, c, rfl, _⟩ := h'
  have hmm := @run_makeMap Tryz.prog
  have e1 : (W.alloc (.map #[] 0)).heap.size = W.heap.size + 1 := by simp
  have e2 : ((W.alloc (.map #[] 0)).alloc (.cells #[.map (some W.heap.size)] 58)).heap.size = W.heap.size + 2 := by simp
  have hb1 := below_mk (below_mk (Below.refl W.heap.size W) (.map #[] 0)) (.cells #[.map (some W.heap.size)] 58)
  have HC := Aside0.mk (dangers0_calls ((W.alloc (.map #[] 0)).alloc (.cells #[.map (some W.heap.size)] 58)) _ l (h.below hb1) hn (fun e he => (hs e he).1))
  have hn0 : CntAt 9 Value.string okS ((W.alloc (.map #[] 0)).alloc (.cells #[.map (some W.heap.size)] 58)) W.heap.size 0 [] := (CntAt.made W).kept (World.grownBy_alloc _ _ none) (by simp)
  have hn1 : ((W.alloc (.map #[] 0)).alloc (.cells #[.map (some W.heap.size)] 58)).heap[W.heap.size + 1]? = some (.cells #[.map (some W.heap.size)] 58 (0, 0)) := by
    rw [← e1]
    exact heap_alloc_new _ _
  have HB1 := Aside0.mk hb1
  have HN0 := Aside0.mk (And.intro hn0 hn1)
  have HV := Aside0.mk (vulE_ok hs)
  have HVL : Aside0 ((vulE l).length ≤ 1048576) := ⟨Nat.le_trans (vulE_len l) hn⟩
  have HE1 := Aside0.mk e2
  clear h hb1 hs e1 e2 hn0 hn1
  refine (callsIn_wide (n := 5)).1 ?_
  refine callsIn_of_wp_marks Tryz.func13 rfl trivial ?_ rfl
  simp only [Tryz.ntmps13, List.size_toArray, List.length_cons, List.length_nil, Nat.reduceAdd, Nat.reduceSub, Array.replicate_succ, Array.replicate_zero, List.push_toArray, List.append_toArray, List.nil_append, List.cons_append]
  gi_wp2_with fail
  refine ⟨trivial, (callsIn_wide.2 HC.out).mono ?_⟩
  rintro e U ⟨hbU, f, rfl, hD⟩
  obtain ⟨b1, b3, rfl⟩ := hD.form
  have hE := HE1.out
  rw [hE] at hbU hD
  have hU := hD.lt
  have hnU0 : CntAt 9 Value.string okS U W.heap.size 0 [] := by
    obtain ⟨ks, g, q1, q2, q3⟩ := HN0.out.1
    exact ⟨ks, g, q1.below (hbU.block _ (by omega)), q2, q3⟩
  have hnU1 := (hbU.block (W.heap.size + 1) (by omega)).trans HN0.out.2
  have hB0 : Below W.heap.size W U := HB1.out.trans (hbU.mono (by omega))
  have HD := Aside0.mk hD
  have HB0 := Aside0.mk hB0
  have HNU := Aside0.mk (And.intro hnU0 hnU1)
  clear hbU hD hnU0 hnU1 hB0 HB1 HN0
  gi_wp2_with fail
  have hgU := grownBy_refl U (some W.heap.size)
  refine wpIn_rangeFunc_ownH (F := Fence.wide) rfl (by omega) (gf := 30) (lb := #[.pointer (some ⟨b1, 0, none⟩), .pointer (some ⟨b3, 0, none⟩)]) rfl trivial (enters_of Tryz.func30 (by kernel_rfl) rfl)
    (dg_stops HD.out HV.out HVL.out _) KpE.trans kpE_b (Below.refl _ _) (fun _ => rfl)
    (PvI U W.heap.size) (fun c pre W' => False)
    (PvI_own _ _ (by omega)) (fun c s A B row hs hg hr => hs.elim) ?h0
    (fun x a' W' => ∃ Bd, U.heap.size ≤ Bd ∧ W'.heap[Bd]? = some (.cells (encD x.1).toArray 42 (0, 0)) ∧ a' = { tmps := #[Value.slice A l.length c, undef, .slice none 0 0, .pointer (some ⟨W.heap.size + 1, 0, none⟩), .pointer (some ⟨Bd, 0, none⟩), .map (some W.heap.size), .slice A l.length c, .func (.func 30) #[] #[.pointer (some ⟨b1, 0, none⟩), .pointer (some ⟨b3, 0, none⟩)], .agg (encD x.1).toArray, undef, undef, undef, undef, undef, undef, undef, undef, undef, undef], defers := [] })
    ?hAx ?assign ?body ?done ?stop
  case h0 => exact ⟨HNU.out.1, hgU⟩
  case hAx =>
    rintro x a' s X Y row ⟨Bd, h1, h2, h3⟩ hg hr
    exact ⟨Bd, h1, (hg.block _ (blk_lt h2) (fun e => by
      obtain ⟨o, ho, hc⟩ := (hr _ e.symm).2
      rw [h2] at ho
      cases ho
      cases hc)).trans h2, h3⟩
  case assign =>
    rintro lp pre x W2 K hI hK
    have hst : Sem.run Tryz.prog (storeCells ⟨W2.heap.size, 0, none⟩ (encD x.1) 0) (W2.alloc (.cells #[.string ⟨#[]⟩, .int .i64 0, .string ⟨#[]⟩, .int .i64 0, .int .i64 0, .bool false, .string ⟨#[]⟩, .int .i64 0, .string ⟨#[]⟩, .int .i64 0, .int .i64 0, .bool false] 42)) = .ok () (W2.alloc (.cells (encD x.1).toArray 42)) := storeNewD W2 x.1
    have hl12 : (encD x.1).length = 12 := rfl
    have HI := Aside0.mk hI
    have HK := Aside0.mk hK
    clear hI hK
    gi_wp2_with fail
    exact HK.out _ _ ((KeepsOthers.alloc _ _).from _) (KpE.below (below_mk (Below.refl _ W2) _) HI.out.2.size) (PvI_own _ _ (by omega) pre W2 _ none HI.out (World.grownBy_alloc W2 _ none) (fun r e => by cases e)) ⟨_, HI.out.2.size, heap_alloc_new W2 _, rfl⟩
  case body =>
    rintro lp pre ⟨⟨⟨p, n, q, m0', k, v⟩, ⟨p', n', q', m', k', v'⟩⟩, hx⟩ a' W2 hl ⟨r, hr⟩ ⟨⟨ks, g, hm, hks, hg0⟩, hg⟩ ⟨Bd, hd1, hd2, rfl⟩ hlen
    have hd3 : W2.heap[Bd]? = some (.cells #[.string p, .int .i64 n, .string q, .int .i64 m0', .int .i64 k, .bool v, .string p', .int .i64 n', .string q', .int .i64 m', .int .i64 k', .bool v'] 42 (0, 0)) := hd2
    have hq : okS q := hx.1.2.1
    obtain ⟨cc, hcc, hgq⟩ := hg0 q hq
    have c3 := (blk_cell ((hg.block (W.heap.size + 1) (by omega) (by simp)).trans HNU.out.2) 0).trans (show (#[Value.map (some W.heap.size)])[0]? = some (.map (some W.heap.size)) from rfl)
    have x2 := (blk_cell hd3 2).trans (show (#[Value.string p, .int .i64 n, .string q, .int .i64 m0', .int .i64 k, .bool v, .string p', .int .i64 n', .string q', .int .i64 m', .int .i64 k', .bool v'])[2]? = some (.string q) from rfl)
    have hlk : Sem.run Tryz.prog (Instr.lookup 58 (.map (some W.heap.size)) (.string q) false) W2 = .ok (.int .i64 (cc : Nat)) W2 := by rw [← hgq]; exact hm.look keyS Tryz.underlying58 (zv3 _) hq
    have hdl := dangers_len (vulE l) HVL.out
    have hcb : cc + 1 < 9223372036854775807 := by omega
    have hml : pre.length < maxLen := by unfold maxLen; omega
    have HM := Aside0.mk hm
    have HQ := Aside0.mk hq
    have HG := Aside0.mk hg
    have HML := Aside0.mk hml
    have HKS := Aside0.mk (And.intro hks hg0)
    have HCC := Aside0.mk hcc
    have HX := Aside0.mk hx
    clear hd2 hd3 hlen hdl hm hq hml hg hks hg0 hcc hgq hr
    gi_wp2_with (gi_at_mapUpdate; refine wpListIn_mapSet _ _ _ rfl _ _ _ 58 rfl HM.out keyS Tryz.underlying58 HML.out HQ.out _ rfl rfl rfl ?_; intro W6 hm6 hg6)
    refine ⟨KeepsFrom.of_grownBy hg6 (fun j e => by injection e with e; omega), kpE_map (by omega) HG.out.size hg6 HM.out.block, ?_, grown_step HG.out hg6 (fun r e => Or.inr (by injection e with e; exact e.symm))⟩
    have := cnt_step HKS.out.1 HKS.out.2 HCC.out hm6
    simpa [val1] using this
  case done =>
    rintro D xs W3 hD hxs ⟨hcnt, hg⟩ hK
    obtain ⟨ks, g, hm, hks, _⟩ := hcnt
    have hlen := val1_len xs
    have hxs' : val1 xs = dangersE (vulE l) := hxs
    rw [hxs'] at hks hlen
    have hdl := dangers_len (vulE l) HVL.out
    have c3 := (blk_cell ((hg.block (W.heap.size + 1) (by omega) (by simp)).trans HNU.out.2) 0).trans (show (#[Value.map (some W.heap.size)])[0]? = some (.map (some W.heap.size)) from rfl)
    have HK1 := Aside0.mk (keysS_calls (some W.heap.size) W3)
    have HK2 := Aside0.mk (sortedS_calls hm (by omega))
    have HKS := Aside0.mk hks
    have hB3 : Below W.heap.size W W3 := HB0.out.trans (grownBy_below hg (by omega) (fun k e => by injection e with e; omega))
    have HB3 := Aside0.mk hB3
    have hD3 := blk_lt hK
    clear hm hks hg hxs hxs' hlen hdl hB3
    gi_wp2_with fail
    refine ⟨trivial, (callsIn_wide.2 HK1.out).mono ?_⟩
    rintro e W4 ⟨rfl, rfl⟩
    gi_wp2_with fail
    refine ⟨trivial, (callsIn_wide.2 HK2.out).mono ?_⟩
    rintro e W5 ⟨vv, names, rfl, how, hpw, hmem, hok, hb5⟩
    have hK5 : W5.heap[D]? = some (.deferred (some [])) := (hb5.block D hD3).trans hK
    obtain ⟨Ao, co, rfl⟩ := owns_form how
    have HF : Aside0 ((W5.putObj D (.deferred none)).ownsRow W.heap.size 9 1 (.slice Ao names.length co) names.length (names.map Value.string) ∧ names.Pairwise (fun x y => blt x y = true) ∧ (∀ s, s ∈ names ↔ s ∈ (dangersE (vulE l)).map fun x => x.1.q) ∧ Below W.heap.size W (W5.putObj D (.deferred none))) := ⟨by
      refine ⟨owns_mono (ownsRow_putObj how (.deferred none) hK5 rfl) HB3.out.size, hpw, fun s => ⟨fun hs => (HKS.out s).1 ((hmem s (hok s hs)).1 hs), fun hs => ?_⟩, ((HB3.out.trans (hb5.mono HB3.out.size))).trans (belowK_b (w := W) (Nat.le_refl _) W5 D _ _ (by omega) hK5 rfl rfl)⟩
      refine (hmem s ?_).2 ((HKS.out s).2 hs)
      obtain ⟨x, hx, rfl⟩ := List.mem_map.1 hs
      unfold dangersE dangF at hx
      rw [List.mem_flatMap] at hx
      obtain ⟨y, hy, hx⟩ := hx
      obtain ⟨z, _, rfl⟩ := List.mem_map.1 hx
      exact (HV.out y hy).2.1⟩
    clear how hpw hmem hok hb5 HK1 HK2
    gi_wp2_with fail
    refine ⟨by simp, .inl ⟨_, _, rfl, run_takeDeferred hK5, ?_⟩⟩
    refine ⟨.slice Ao names.length co, ?_, ⟨_, names, rfl, HF.out.1, HF.out.2.1, HF.out.2.2.1, HF.out.2.2.2⟩⟩
    simp [results, Tryz.f13, go_sem]
  case stop =>
    rintro D c pre W3 hD hpre hf hK
    exact hf.elim
end Go.Proofs.YtknpkfjaffhejaaGreat
