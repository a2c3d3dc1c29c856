/- WHAT IS PROVED: the reference's site: a site in its place, once. | WHAT IS PROVED: the reference's Tracked; sameSites at equal lists. -/
import Derived.Test.YtknpkfjaffhejaaGreatPt
import Derived.Test.YtknpkfjaffhejaaGreatSq
import Derived.Test.YtknpkfjaffhejaaGreatVq
namespace Go.Proofs.YtknpkfjaffhejaaGreat
open Go.RowKit Go.Sort Go.Lib Go.Proofs.YtknpkfjaffhejaaGreatW.PrintWords Go.Proofs.YtknpkfjaffhejaaGreatW.PrintLast Go.Proofs.YtknpkfjaffhejaaGreatW.PrintMore
set_option linter.unusedVariables false
set_option linter.unusedSimpArgs false

def lessS (a b : SI) : Bool := ltOf cmpSite a b
theorem lessS_sto : STO lessS := cmpSite3.sto
theorem owns_si {W : World} {base : Nat} {v : Value} {l : List SI} (h : W.ownsRow base 37 2 v l.length (flatS l)) : SiR W v l := by
  obtain ⟨_, ⟨rfl, e⟩ | ⟨g, cap, cur, rfl, a2, a3, a4, a5, a6, a7⟩⟩ := h
  · exact ⟨none, 0, by rw [e], fun hl => absurd (List.length_eq_zero_iff.1 e) hl⟩
  · refine ⟨_, cap, rfl, fun _ => ⟨g, 0, rfl, fun j u hj => ?_⟩⟩
    rw [Nat.zero_add, blk_cell a3, ← Array.getElem?_toList]
    rw [← a7, List.getElem?_take] at hj
    split at hj
    · exact hj
    · cases hj
theorem SiR.all {W : World} {b off n c : Nat} {l : List SI} (h : SiR W (.slice (some ⟨b, off, none⟩) n c) l) : ∀ j u, (flatS l)[j]? = some u → W.cell? ⟨b, off + j, none⟩ = some u := by
  obtain ⟨A', c', e, hA⟩ := h
  injection e with e1 e2 e3
  subst e1
  intro j u hj
  by_cases hl : l = []
  · subst hl; simp [flatS] at hj
  · obtain ⟨b', off', e, hc⟩ := hA hl
    injection e with e
    injection e with e1 e2 _
    subst e1 e2
    exact hc j u hj
theorem flatS_app (l m : List SI) : flatS (l ++ m) = flatS l ++ flatS m := by simp [flatS]
theorem flatS_one (l : List SI) : ∀ u ∈ flatS l, u.oneCell' = true := fun u hu => by
  simp only [flatS, List.mem_flatMap] at hu
  obtain ⟨x, _, hx⟩ := hu
  exact encS_one x u hx
theorem flatS_take (l : List SI) (i : Nat) (j : Nat) (u : Value) (h : (flatS (l.take i))[j]? = some u) : (flatS l)[j]? = some u := by
  have e : flatS l = flatS (l.take i) ++ flatS (l.drop i) := by rw [← flatS_app, List.take_append_drop]
  rw [e, List.getElem?_append_left (List.getElem?_eq_some_iff.1 h).1]
  exact h
theorem flatS_drop (l : List SI) (i : Nat) (hi : i ≤ l.length) (j : Nat) (u : Value) (h : (flatS (l.drop i))[j]? = some u) : (flatS l)[i * 2 + j]? = some u := by
  have e : flatS l = flatS (l.take i) ++ flatS (l.drop i) := by rw [← flatS_app, List.take_append_drop]
  have hl : (flatS (l.take i)).length = i * 2 := by rw [flatS_len, List.length_take]; congr 1; omega
  rw [e, List.getElem?_append_right (by omega), hl, Nat.add_sub_cancel_left]
  exact h
theorem flatS_one1 (x : SI) : flatS [x] = encS x := by simp [flatS]
theorem guard37 (op : BinOp) (a b : Operand) (x y : SI) (w : World) : Sem.run Tryz.prog (eqGuard op 37 a b (.agg #[.string x.1, .int .i64 x.2]) (.agg #[.string y.1, .int .i64 y.2])) w = .ok () w := run_eqGuard_agg w op 37 a b _ _ (by kernel_rfl)

set_option maxRecDepth 100000 in
set_option maxHeartbeats 8000000 in
theorem site_calls (W : World) (v : Value) (l : List SI) (x : SI) {base : Nat} (h : W.ownsRow base 37 2 v l.length (flatS l)) (hbase : base ≤ W.heap.size) (hn : l.length ≤ 1048576) :
    Calls Tryz.prog 25 #[v, .agg (encS x).toArray] W fun e W' => Below W.heap.size W W' ∧ ∃ v', e = .returned v' ∧ W'.ownsRow base 37 2 v' (ins lessS l x).length (flatS (ins lessS l x)) := by
  obtain ⟨p, n⟩ := x
  show Calls Tryz.prog 25 #[v, .agg #[.string p, .int .i64 n]] W _
  have hu29 := Tryz.underlying37
  obtain ⟨A, c, rfl⟩ := owns_form h
  have hbx := heap_alloc_new W (.cells #[.string p, .int .i64 n] 37)
  have hGr := (Gr.refl W).alloc (.cells #[.string p, .int .i64 n] 37)
  have HOW := Aside0.mk h
  have HBX := Aside0.mk (And.intro hbx hGr)
  clear h hbx hGr
  go_enter Tryz.func25, Tryz.ntmps25
  go_wp2_with fail
  generalize W.alloc (.cells #[.string p, .int .i64 n] 37) = W0 at *
  go_loopw [5] (fun v wr => ∃ i : Nat, v = .int .i64 (i : Nat) ∧ i ≤ l.length ∧ Aside0 (Gr W0 wr ∧ ins lessS l (p, n) = l.take i ++ ins lessS (l.drop i) (p, n))) (fun v wr => l.length - (RowKit.intOf v).toNat)
  case atStart => exact ⟨0, rfl, Nat.zero_le _, ⟨Gr.refl _, by simp⟩⟩
  case round =>
    obtain ⟨i, rfl, hi, HI⟩ := hrel
    have HXB : Aside0 (∀ W', Below wr.heap.size wr W' → W'.cell? ⟨W.heap.size, 0, none⟩ = some (.string p) ∧ W'.cell? ⟨W.heap.size, 1, none⟩ = some (.int .i64 n)) := ⟨fun W' hb => by
      have e0 := (HI.out.1.below.block _ (blk_lt HBX.out.1)).trans HBX.out.1
      have e := (hb.block _ (blk_lt e0)).trans e0
      exact ⟨(blk_cell e 0).trans rfl, (blk_cell e 1).trans rfl⟩⟩
    have HB : Aside0 (Below W.heap.size W wr ∧ wr.ownsRow base 37 2 (.slice A l.length c) l.length (flatS l)) := by
      have hb := (HBX.out.2.trans HI.out.1).below
      exact ⟨hb, owns_below HOW.out hb⟩
    by_cases hlt : i < l.length
    · have d1 : decide (((i : Nat) : Int) < ((l.length : Nat) : Int)) = true := decide_eq_true (by omega)
      have p0 : ((0 : Int) ≤ ((i : Nat) : Int)) = True := eq_true (by omega)
      have p1 : (((i : Nat) : Int) < ((l.length : Nat) : Int)) = True := eq_true (by omega)
      have hE := owns_si HB.out.2
      obtain ⟨b, off, rfl, _⟩ := hE.cells i hlt
      have HSK : Aside0 (∀ W', Gr wr W' → ((W'.cell? ⟨b, off + i * 2, none⟩ = some (.string l[i]!.1) ∧ W'.cell? ⟨b, off + i * 2 + 1, none⟩ = some (.int .i64 l[i]!.2)) ∧
          (W'.cell? ⟨W.heap.size, 0, none⟩ = some (.string p) ∧ W'.cell? ⟨W.heap.size, 1, none⟩ = some (.int .i64 n))) ∧ Gr wr W') := ⟨fun W' hg => by
        obtain ⟨b', off', e, ys⟩ := (hE.below hg.below).cells i hlt
        cases e
        exact ⟨⟨ys, HXB.out W' hg.below⟩, hg⟩⟩
      have HSI := Aside0.mk (ins_step hlt HI.out.2)
      have HSS := Aside0.mk (ins_same hlt HI.out.2)
      have HSN := Aside0.mk (ins_new hlt HI.out.2)
      have hle := fun w => lessid_calls l[i]!.1 l[i]!.2 p n w
      have hee := fun w => eq29 l[i]!.1 p l[i]!.2 n w
      clear hE
      obtain ⟨⟨p', n'⟩, hxe⟩ : ∃ y, l[i]! = y := ⟨_, rfl⟩
      rw [hxe] at HSK HSI HSS HSN hle hee
      clear hxe
      obtain ⟨⟨⟨y0, y1⟩, ⟨x0, x1⟩⟩, _⟩ := HSK.out wr (Gr.refl _)
      have HLE : Aside0 (∀ w, Calls Tryz.prog 40 #[.agg #[.string p', .int .i64 n'], .agg #[.string p, .int .i64 n]] w fun e w' => e = .returned (.bool (lessS (p', n') (p, n))) ∧ Gr w w') := ⟨hle⟩
      have HEE : Aside0 (∀ w, Sem.run Tryz.prog (binOp .eql 37 (.agg #[.string p', .int .i64 n']) (.agg #[.string p, .int .i64 n])) w = .ok (.bool (decide (p' = p ∧ n' = n))) w) := ⟨hee⟩
      clear hle hee
      go_wp2_with fail
      go_region_held3 (fun W' => ((W'.cell? ⟨b, off + i * 2, none⟩ = some (.string p') ∧ W'.cell? ⟨b, off + i * 2 + 1, none⟩ = some (.int .i64 n')) ∧ (W'.cell? ⟨W.heap.size, 0, none⟩ = some (.string p) ∧ W'.cell? ⟨W.heap.size, 1, none⟩ = some (.int .i64 n))) ∧ Gr wr W' ) (exact HSK.out _ (by repeat (first | assumption | exact Gr.refl _ | refine Gr.drew ?_ | refine Gr.alloc ?_ _))) (first | (go_at_call 40; refine (HLE.out _).mono ?_; rintro e w3 ⟨rfl, hg3⟩; have hq3 := Gr.trans (And.right (by assumption)) hg3))
      rename_i hlast
      have HL4 := Aside0.mk hlast
      have HG4 := Aside0.mk hlast.2
      clear hlast y0 y1 x0 x1 hg3 hq3
      cases hls : lessS (p', n') (p, n)
      · have hgu : ∀ (op : BinOp) (a b : Operand) w, Sem.run Tryz.prog (eqGuard op 37 a b (.agg #[.string p', .int .i64 n']) (.agg #[.string p, .int .i64 n])) w = .ok () w := fun op a b w => guard37 op a b (p', n') (p, n) w
        obtain ⟨⟨⟨y0, y1⟩, ⟨x0, x1⟩⟩, hgr4⟩ := HL4.out
        by_cases he : ((p', n') : SI) = (p, n)
        · have HIN := Aside0.mk (HSS.out hls he)
          have hd : decide (p' = p ∧ n' = n) = true := decide_eq_true (by simpa using he)
          have hee : ∀ w, Sem.run Tryz.prog (binOp .eql 37 (.agg #[.string p', .int .i64 n']) (.agg #[.string p, .int .i64 n])) w = .ok (.bool true) w := fun w => by rw [HEE.out w, hd]
          clear he hd HSI HSS HSN
          go_wp2_with fail
          go_quiet (fail)
          have HG5 : Aside0 (Gr wr (w3.drewN nq)) := ⟨hgr4.drewN nq⟩
          go_wp2_with fail
          go_ret
          exact ⟨below_to HB.out.1 HG5.out.below, _, rfl, by rw [HIN.out]; exact owns_below HB.out.2 HG5.out.below⟩
        · have HIN := Aside0.mk (HSN.out hls he)
          have hd : decide (p' = p ∧ n' = n) = false := decide_eq_false (fun e => he (by rw [e.1, e.2]))
          have hee : ∀ w, Sem.run Tryz.prog (binOp .eql 37 (.agg #[.string p', .int .i64 n']) (.agg #[.string p, .int .i64 n])) w = .ok (.bool false) w := fun w => by rw [HEE.out w, hd]
          clear he hd HSI HSS HSN
          go_wp2_with fail
          go_quiet (fail)
          have HG5 : Aside0 (Gr wr (w3.drewN nq)) := ⟨hgr4.drewN nq⟩
          clear y0 y1 x0 x1 hgr4
          generalize w3.drewN nq = WT at *
          have HXB2 : Aside0 (∀ W', Below WT.heap.size WT W' → W'.cell? ⟨W.heap.size, 0, none⟩ = some (.string p) ∧ W'.cell? ⟨W.heap.size, 1, none⟩ = some (.int .i64 n)) := ⟨fun W' hb => HXB.out W' (below_to HG5.out.below hb)⟩
          have HBT : Aside0 (Below W.heap.size W WT) := ⟨below_to HB.out.1 HG5.out.below⟩
          have hlc : l.length ≤ c := owns_cap HB.out.2
          have HCL : Aside0 (∀ j u, (flatS l)[j]? = some u → WT.cell? ⟨b, off + j, none⟩ = some u) := ⟨(owns_si (owns_below HB.out.2 HG5.out.below)).all⟩
          clear HB HXB HG5
          obtain ⟨i0, hi0, hz0, hz1, hz2⟩ := info_parts info29s
          have t25 := Tryz.underlying25
          go_wp2_with (at_builtin; refine wpList_append_own _ rfl _ _ 25 rfl WT.heap.size 37 i0 (.agg #[.string ⟨#[]⟩, .int .i64 0]) 2 24 t25 hi0 hz0 hz1 hz2 rfl (by omega) (.slice none 0 0) 0 [] rfl (World.ownsRow_nil _ _ _ _) ⟨b, off, none⟩ i _ (flatS (l.take i)) rfl ?qa1 ?qa2 ?qa3 ?qa4 ?qa5 (Nat.le_refl _) ?_)
          case qa1 => first | (rw [flatS_len, List.length_take]; congr 1; omega) | (rw [flatS_len])
          case qa2 =>
            intro j u hj
            try rw [Addr.add_lit]
            first | exact HCL.out j u (flatS_take l _ j u hj) | exact HCL.out j u hj
          case qa3 => exact flatS_one _
          case qa4 => unfold maxLen; omega
          case qa5 => omega
          intro v1 W1 hown1 hg1 hnil1
          obtain ⟨A1, c1, rfl⟩ := owns_form hown1
          obtain ⟨x0, x1⟩ := HXB2.out W1 (grownBy_below hg1 (Nat.le_refl _) (fun _ e => by cases e))
          have HO1 := Aside0.mk (And.intro hown1 hg1)
          clear hown1 hg1 hnil1
          go_wp2_with (at_builtin; refine wpList_append_own _ rfl _ _ 25 rfl WT.heap.size 37 i0 (.agg #[.string ⟨#[]⟩, .int .i64 0]) 2 24 t25 hi0 hz0 hz1 hz2 rfl (by omega) _ _ _ rfl (HO1.out.1.alloc _) ⟨W1.heap.size, 0, none⟩ 1 1 (encS (p, n)) rfl rfl ?qb2 (encS_one _) ?qb4 ?qb5 ?qb6 ?_)
          case qb2 =>
            intro j u hj
            rw [Addr.add_lit, Nat.zero_add, blk_cell (heap_alloc_new W1 _)]
            simpa [encS] using hj
          case qb4 => unfold maxLen; omega
          case qb5 => omega
          case qb6 =>
            rw [World.size_alloc]
            have := HO1.out.2.size
            omega
          intro v2 W2 hown2 hg2 hnil2
          obtain ⟨A2, c2, rfl⟩ := owns_form hown2
          have HB2 : Aside0 (Below WT.heap.size WT W2) := ⟨by
            have hb1 : Below WT.heap.size WT W1 := grownBy_below HO1.out.2 (Nat.le_refl _) (fun _ e => by cases e)
            exact (below_mk hb1 _).trans (grownBy_below hg2 (below_mk hb1 _).size (fun k e => (HO1.out.1.lt k e).1))⟩
          have HO2 := Aside0.mk hown2
          clear hown2 hg2 hnil2
          go_wp2_with (at_builtin; refine wpList_append_own _ rfl _ _ 25 rfl WT.heap.size 37 i0 (.agg #[.string ⟨#[]⟩, .int .i64 0]) 2 24 t25 hi0 hz0 hz1 hz2 rfl (by omega) _ _ _ rfl HO2.out ⟨b, _, none⟩ _ _ (flatS (l.drop i)) rfl (by rw [flatS_len, List.length_drop]) ?qc2 ?qc3 ?qc4 ?qc5 ?qc6 ?_)
          case qc2 =>
            intro j u hj
            rw [Addr.add_lit]
            have := cell_below HB2.out (HCL.out (i * 2 + j) u (flatS_drop l i hi j u hj))
            rw [← this]
            congr 2
            omega
          case qc3 => exact flatS_one _
          case qc4 => unfold maxLen; omega
          case qc5 => omega
          case qc6 => exact HB2.out.size
          intro v3 W3 hown3 hg3 hnil3
          go_wp2
          go_ret
          refine ⟨below_to HBT.out (HB2.out.trans (grownBy_below hg3 HB2.out.size (fun k e => (HO2.out.lt k e).1))), _, rfl, ?_⟩
          rw [HIN.out]
          refine owns_mono ?_ (Nat.le_trans hbase HBT.out.size)
          have e1 : i + 1 + (l.length - i) = (l.take i ++ [((p, n) : SI)] ++ l.drop i).length := by simp; omega
          rw [e1] at hown3
          rw [flatS_app, flatS_app, flatS_one1]
          simpa using hown3
      · rw [hls] at HSI
        have HSI2 := HSI.out rfl
        have HSIA := Aside0.mk HSI2
        clear HSI2
        go_wp2_with fail
        go_roundw
        case measure => show l.length - (i + 1) < l.length - i; omega
        case rel => exact ⟨i + 1, by first | rfl | (simp; done), by omega, ⟨HI.out.1.trans HG4.out, HSIA.out⟩⟩
    · have d1 : decide (((i : Nat) : Int) < ((l.length : Nat) : Int)) = false := decide_eq_false (by omega)
      obtain rfl : i = l.length := by omega
      have HIN := Aside0.mk (ins_end HI.out.2)
      go_wp2_with fail
      go_quiet (fail)
      have hga : Gr wr (wr.drewN nq) := (Gr.refl wr).drewN nq
      generalize wr.drewN nq = Wa at *
      go_wp2_with fail
      go_quiet (fail)
      have HG5 : Aside0 (Gr wr (Wa.drewN nq)) := ⟨hga.drewN nq⟩
      clear hga
      generalize Wa.drewN nq = WT at *
      rcases owns_kind HOW.out with ⟨h1, h2, h3⟩ | ⟨g, c', h1, _, hlc, _⟩
      · injection h1 with h1 h1' h1''
        subst h1 h1''
        obtain rfl : l = [] := List.length_eq_zero_iff.1 h2
        have HXB2 : Aside0 (∀ W', Below WT.heap.size WT W' → W'.cell? ⟨W.heap.size, 0, none⟩ = some (.string p) ∧ W'.cell? ⟨W.heap.size, 1, none⟩ = some (.int .i64 n)) := ⟨fun W' hb => HXB.out W' (below_to HG5.out.below hb)⟩
        have HBT : Aside0 (Below W.heap.size W WT) := ⟨below_to HB.out.1 HG5.out.below⟩
        clear HB HXB HG5 h2 h3
        obtain ⟨x0, x1⟩ := HXB2.out WT (Below.refl _ _)
        obtain ⟨i0, hi0, hz0, hz1, hz2⟩ := info_parts info29s
        have t25 := Tryz.underlying25
        go_wp2_with (first | (at_builtin; refine wpList_append_none _ rfl _ _ 25 rfl WT.heap.size 37 i0 2 t25 hi0 (.slice none 0 0) 0 [] rfl (World.ownsRow_nil _ _ _ _) rfl ?_) | (at_builtin; refine wpList_append_own _ rfl _ _ 25 rfl WT.heap.size 37 i0 (.agg #[.string ⟨#[]⟩, .int .i64 0]) 2 24 t25 hi0 hz0 hz1 hz2 rfl (by omega) (.slice none 0 0) 0 [] rfl (World.ownsRow_nil _ _ _ _) ⟨WT.heap.size, 0, none⟩ 1 1 (encS (p, n)) rfl rfl ?qb2 (encS_one _) ?qb4 ?qb5 ?qb6 ?_))
        case qb2 =>
          intro j u hj
          rw [Addr.add_lit, Nat.zero_add, blk_cell (heap_alloc_new WT _)]
          simpa [encS] using hj
        case qb4 => unfold maxLen; omega
        case qb5 => omega
        case qb6 => simp
        intro v2 W2 hown2 hg2 hnil2
        obtain ⟨A2, c2, rfl⟩ := owns_form hown2
        have HO2 := Aside0.mk (And.intro hown2 hg2)
        clear hown2 hg2 hnil2
        go_wp2_with (at_builtin; refine wpList_append_none _ rfl _ _ 25 rfl WT.heap.size 37 i0 2 t25 hi0 _ _ _ rfl HO2.out.1 rfl ?_)
        go_ret
        refine ⟨below_to HBT.out ((below_mk (Below.refl _ WT) _).trans (grownBy_below HO2.out.2 (by simp) (fun _ e => by cases e))), _, rfl, ?_⟩
        refine owns_mono ?_ (Nat.le_trans hbase HBT.out.size)
        simpa [ins, flatS] using HO2.out.1
      · injection h1 with h1 _ h1''
        subst h1 h1''
        obtain ⟨b, off, hbo⟩ : ∃ b off, (⟨g, 0, none⟩ : Addr) = ⟨b, off, none⟩ := ⟨g, 0, rfl⟩
        rw [hbo] at HB HOW
        simp only [hbo]
        clear hbo
        have HXB2 : Aside0 (∀ W', Below WT.heap.size WT W' → W'.cell? ⟨W.heap.size, 0, none⟩ = some (.string p) ∧ W'.cell? ⟨W.heap.size, 1, none⟩ = some (.int .i64 n)) := ⟨fun W' hb => HXB.out W' (below_to HG5.out.below hb)⟩
        have HBT : Aside0 (Below W.heap.size W WT) := ⟨below_to HB.out.1 HG5.out.below⟩
        have hlc : l.length ≤ c := owns_cap HB.out.2
        have HCL : Aside0 (∀ j u, (flatS l)[j]? = some u → WT.cell? ⟨b, off + j, none⟩ = some u) := ⟨(owns_si (owns_below HB.out.2 HG5.out.below)).all⟩
        clear HB HXB HG5
        obtain ⟨i0, hi0, hz0, hz1, hz2⟩ := info_parts info29s
        have t25 := Tryz.underlying25
        go_wp2_with (at_builtin; refine wpList_append_own _ rfl _ _ 25 rfl WT.heap.size 37 i0 (.agg #[.string ⟨#[]⟩, .int .i64 0]) 2 24 t25 hi0 hz0 hz1 hz2 rfl (by omega) (.slice none 0 0) 0 [] rfl (World.ownsRow_nil _ _ _ _) ⟨b, off, none⟩ l.length _ (flatS (l.take l.length)) rfl ?qa1 ?qa2 ?qa3 ?qa4 ?qa5 (Nat.le_refl _) ?_)
        case qa1 => first | (rw [flatS_len, List.length_take]; congr 1; omega) | (rw [flatS_len])
        case qa2 =>
          intro j u hj
          try rw [Addr.add_lit]
          first | exact HCL.out j u (flatS_take l _ j u hj) | exact HCL.out j u hj
        case qa3 => exact flatS_one _
        case qa4 => unfold maxLen; omega
        case qa5 => omega
        intro v1 W1 hown1 hg1 hnil1
        obtain ⟨A1, c1, rfl⟩ := owns_form hown1
        obtain ⟨x0, x1⟩ := HXB2.out W1 (grownBy_below hg1 (Nat.le_refl _) (fun _ e => by cases e))
        have HO1 := Aside0.mk (And.intro hown1 hg1)
        clear hown1 hg1 hnil1
        go_wp2_with (at_builtin; refine wpList_append_own _ rfl _ _ 25 rfl WT.heap.size 37 i0 (.agg #[.string ⟨#[]⟩, .int .i64 0]) 2 24 t25 hi0 hz0 hz1 hz2 rfl (by omega) _ _ _ rfl (HO1.out.1.alloc _) ⟨W1.heap.size, 0, none⟩ 1 1 (encS (p, n)) rfl rfl ?qb2 (encS_one _) ?qb4 ?qb5 ?qb6 ?_)
        case qb2 =>
          intro j u hj
          rw [Addr.add_lit, Nat.zero_add, blk_cell (heap_alloc_new W1 _)]
          simpa [encS] using hj
        case qb4 => unfold maxLen; omega
        case qb5 => omega
        case qb6 =>
          rw [World.size_alloc]
          have := HO1.out.2.size
          omega
        intro v2 W2 hown2 hg2 hnil2
        obtain ⟨A2, c2, rfl⟩ := owns_form hown2
        have HB2 : Aside0 (Below WT.heap.size WT W2) := ⟨by
          have hb1 : Below WT.heap.size WT W1 := grownBy_below HO1.out.2 (Nat.le_refl _) (fun _ e => by cases e)
          exact (below_mk hb1 _).trans (grownBy_below hg2 (below_mk hb1 _).size (fun k e => (HO1.out.1.lt k e).1))⟩
        have HO2 := Aside0.mk hown2
        clear hown2 hg2 hnil2
        obtain ⟨ad, had⟩ : ∃ ad, (if c = l.length then some (⟨b, off, none⟩ : Addr) else some ⟨b, off + l.length * 2, none⟩) = some ad := by split <;> exact ⟨_, rfl⟩
        go_wp2_with (at_builtin; go_loud (refine wpList_append_own _ rfl _ _ 25 rfl WT.heap.size 37 i0 (.agg #[.string ⟨#[]⟩, .int .i64 0]) 2 24 t25 hi0 hz0 hz1 hz2 rfl (by omega) _ _ _ rfl HO2.out ad 0 (c - l.length) (flatS (l.drop l.length)) rfl (by simp [flatS]) ?qc2 ?qc3 ?qc4 ?qc5 ?qc6 ?_))
        case qc2 =>
          intro j u hj
          simp [flatS] at hj
        case qc3 => exact flatS_one _
        case qc4 => unfold maxLen; omega
        case qc5 => omega
        case qc6 => exact HB2.out.size
        intro v3 W3 hown3 hg3 hnil3
        go_wp2
        go_ret
        refine ⟨below_to HBT.out (HB2.out.trans (grownBy_below hg3 HB2.out.size (fun k e => (HO2.out.lt k e).1))), _, rfl, ?_⟩
        rw [HIN.out]
        refine owns_mono ?_ (Nat.le_trans hbase HBT.out.size)
        rw [flatS_app, flatS_app, flatS_one1]
        simpa [flatS] using hown3
end Go.Proofs.YtknpkfjaffhejaaGreat

namespace Go.Proofs.YtknpkfjaffhejaaGreat
open Go.RowKit Go.Sort Go.Lib Go.Proofs.YtknpkfjaffhejaaGreatW.PrintWords Go.Proofs.YtknpkfjaffhejaaGreatW.PrintLast Go.Proofs.YtknpkfjaffhejaaGreatW.PrintMore
set_option linter.unusedVariables false
set_option linter.unusedSimpArgs false

set_option maxRecDepth 100000 in
set_option maxHeartbeats 4000000 in
theorem sameSites_calls (W : World) (v v' : Value) (l : List SI) (h : SiR W v l) (h' : SiR W v' l) (hl : l.length ≤ 1099511627776) :
    Calls Tryz.prog 6 #[v, v'] W fun e W' => e = .returned (.bool true) ∧ Gr W W' := by
  obtain ⟨A, c, rfl⟩ := h.form
  obtain ⟨A', c', rfl⟩ := h'.form
  have HH := Aside0.mk (And.intro h h')
  clear h h'
  have e1 : (((l.length : Nat) : Int) == ((l.length : Nat) : Int)) = true := by simp
  have e2 : (((l.length : Nat) : Int) != ((l.length : Nat) : Int)) = false := by simp
  go_enter Tryz.func6, Tryz.ntmps6
  go_wp2_with fail
  go_loopw [13] (fun v wr => ∃ i : Nat, v = .int .i64 (i : Nat) ∧ i ≤ l.length ∧ Aside0 (Gr W wr)) (fun v wr => l.length - (RowKit.intOf v).toNat)
  case atStart => exact ⟨0, rfl, Nat.zero_le _, ⟨Gr.refl _⟩⟩
  case round =>
    obtain ⟨i, rfl, hi, HI⟩ := hrel
    by_cases hlt : i < l.length
    · have d1 : decide (((i : Nat) : Int) < ((l.length : Nat) : Int)) = true := decide_eq_true (by omega)
      have p0 : ((0 : Int) ≤ ((i : Nat) : Int)) = True := eq_true (by omega)
      have p1 : (((i : Nat) : Int) < ((l.length : Nat) : Int)) = True := eq_true (by omega)
      obtain ⟨b, off, rfl, y0, y1⟩ := (HH.out.1.below HI.out.below).cells i hlt
      obtain ⟨b', off', rfl, z0, z1⟩ := (HH.out.2.below HI.out.below).cells i hlt
      obtain ⟨⟨p, n⟩, hxe⟩ : ∃ y, l[i]! = y := ⟨_, rfl⟩
      rw [hxe] at y0 y1 z0 z1
      clear hxe
      have hne : ∀ w, Sem.run Tryz.prog (binOp .neq 37 (.agg #[.string p, .int .i64 n]) (.agg #[.string p, .int .i64 n])) w = .ok (.bool false) w := fun w => by
        rw [ne29]
        simp
      have hgu : ∀ (op : BinOp) (a b : Operand) w, Sem.run Tryz.prog (eqGuard op 37 a b (.agg #[.string p, .int .i64 n]) (.agg #[.string p, .int .i64 n])) w = .ok () w := fun op a b w => guard37 op a b (p, n) (p, n) w
      have HSK : Aside0 (∀ W', Gr wr W' → ((W'.cell? ⟨b, off + i * 2, none⟩ = some (.string p) ∧ W'.cell? ⟨b, off + i * 2 + 1, none⟩ = some (.int .i64 n) ∧ W'.cell? ⟨b', off' + i * 2, none⟩ = some (.string p) ∧ W'.cell? ⟨b', off' + i * 2 + 1, none⟩ = some (.int .i64 n)) ∧ Gr wr W')) := ⟨fun W' hg => ⟨⟨cell_below hg.below y0, cell_below hg.below y1, cell_below hg.below z0, cell_below hg.below z1⟩, hg⟩⟩
      go_wp2_with fail
      go_region_held3 (fun W' => (W'.cell? ⟨b, off + i * 2, none⟩ = some (.string p) ∧ W'.cell? ⟨b, off + i * 2 + 1, none⟩ = some (.int .i64 n) ∧ W'.cell? ⟨b', off' + i * 2, none⟩ = some (.string p) ∧ W'.cell? ⟨b', off' + i * 2 + 1, none⟩ = some (.int .i64 n)) ∧ Gr wr W') (exact HSK.out _ (by repeat (first | assumption | exact Gr.refl _ | refine Gr.drew ?_ | refine Gr.alloc ?_ _))) (fail)
      rename_i hlast
      have hgr := hlast.2
      have HG := Aside0.mk hgr
      clear hlast hgr
      go_wp2_with fail
      go_roundw
      case measure => show l.length - (i + 1) < l.length - i; omega
      case rel => exact ⟨i + 1, by first | rfl | (simp; done), by omega, ⟨HI.out.trans HG.out⟩⟩
    · have d1 : decide (((i : Nat) : Int) < ((l.length : Nat) : Int)) = false := decide_eq_false (by omega)
      go_wp2_with fail
      go_ret
      exact ⟨rfl, HI.out⟩

/-- Is an edge of a danger, as far as told up to a place? -/
def prt (V : List Edge) (x : Edge) (k : Nat) : Bool := (V.take k).any fun y => decide (x.q = y.p) || decide (y.q = x.p)
theorem prt_zero (V : List Edge) (x : Edge) : prt V x 0 = false := by simp [prt]
theorem prt_succ (V : List Edge) (x : Edge) (k : Nat) (hk : k < V.length) : prt V x (k + 1) = (prt V x k || (decide (x.q = V[k]!.p) || decide (V[k]!.q = x.p))) := by
  rw [getElem!_pos V k hk]
  unfold prt
  rw [List.take_succ_eq_append_getElem hk, List.any_append]
  simp
/-- The reference's tracked sites, up to a place. -/
def refT (V : List Edge) (i : Nat) : List SI := insAll lessS (((V.take i).filter fun x => prt V x V.length).map fun x => (x.p, x.n))
theorem refT_zero (V : List Edge) : refT V 0 = [] := by simp [refT, insAll]
theorem refT_succ (V : List Edge) (i : Nat) (hi : i < V.length) : refT V (i + 1) = if prt V V[i]! V.length = true then ins lessS (refT V i) (V[i]!.p, V[i]!.n) else refT V i := by
  rw [getElem!_pos V i hi]
  unfold refT
  rw [List.take_succ_eq_append_getElem hi, List.filter_append]
  by_cases h : prt V V[i] V.length = true
  · rw [if_pos h, show [V[i]].filter (fun x => prt V x V.length) = [V[i]] from by simp [h], List.map_append, List.map_cons, List.map_nil, insAll_snoc]
  · rw [if_neg h, show [V[i]].filter (fun x => prt V x V.length) = [] from by simp [h], List.append_nil]
theorem refT_len (V : List Edge) (i : Nat) : (refT V i).length ≤ V.length := by
  refine Nat.le_trans (insAll_len _) ?_
  rw [List.length_map]
  refine Nat.le_trans (List.length_filter_le _ _) ?_
  rw [List.length_take]
  omega
theorem refT_sites (V : List Edge) {T : List SI} (h1 : T.Pairwise (fun x y => ltOf cmpSite x y = true)) (h2 : ∀ s, s ∈ T ↔ s ∈ trk (dangersE V)) : T = refT V V.length := by
  refine sorted_uniq lessS_sto _ _ h1 (insAll_sorted lessS_sto _) fun s => ?_
  rw [h2, mem_trk, refT, mem_insAll lessS_sto, List.take_length]
  constructor
  · rintro ⟨x, hx, h⟩
    obtain ⟨a, b, c⟩ := mem_dang_iff.1 hx
    rcases h with rfl | rfl
    · exact List.mem_map.2 ⟨x.1, List.mem_filter.2 ⟨a, by unfold prt; rw [List.take_length, List.any_eq_true]; exact ⟨x.2, b, by simp [c]⟩⟩, rfl⟩
    · exact List.mem_map.2 ⟨x.2, List.mem_filter.2 ⟨b, by unfold prt; rw [List.take_length, List.any_eq_true]; exact ⟨x.1, a, by simp [c]⟩⟩, rfl⟩
  · intro h
    obtain ⟨x, hx, rfl⟩ := List.mem_map.1 h
    obtain ⟨hx1, hx2⟩ := List.mem_filter.1 hx
    unfold prt at hx2
    rw [List.take_length, List.any_eq_true] at hx2
    obtain ⟨y, hy, hq⟩ := hx2
    rw [Bool.or_eq_true, decide_eq_true_eq, decide_eq_true_eq] at hq
    rcases hq with hq | hq
    · exact ⟨(x, y), mem_dang_iff.2 ⟨hx1, hy, hq⟩, .inl rfl⟩
    · exact ⟨(y, x), mem_dang_iff.2 ⟨hy, hx1, hq⟩, .inr rfl⟩

set_option maxRecDepth 100000 in
set_option maxHeartbeats 8000000 in
theorem refT_calls (W : World) (v : Value) (l : List Edge) {m0 : Nat} (h : EdR m0 W v l) (hn : l.length ≤ 1048576) :
    Calls Tryz.prog 8 #[v] W fun e W' => Below W.heap.size W W' ∧ ∃ v', e = .returned v' ∧ W'.ownsRow W.heap.size 37 2 v' (refT (refV l) (refV l).length).length (flatS (refT (refV l) (refV l).length)) := by
  have h' := h
  obtain ⟨A, c, rfl, _⟩ := h'
  have hu31 := Tryz.underlying39
  have hu29 := Tryz.underlying37
  have HC := Aside0.mk (refV_calls W _ l h hn)
  have hVL : (refV l).length ≤ 1048576 := Nat.le_trans (refV_len l) hn
  generalize refV l = V at *
  clear h
  go_enter Tryz.func8, Tryz.ntmps8
  go_wp2_with (go_at_call 24; refine HC.out.mono ?_; rintro e W1 ⟨hb1, v1, rfl, how1⟩; obtain ⟨A1, c1, rfl⟩ := owns_form how1; have HB1 := Aside0.mk (And.intro hb1 how1); clear hb1 how1)
  go_loopw [3, 5] (fun v3 v wr => ∃ i : Nat, v = .int .i64 (i : Nat) ∧ i ≤ V.length ∧ ∃ A3 c3, v3 = .slice A3 (refT V i).length c3 ∧ Aside0 (Below W1.heap.size W1 wr ∧ wr.ownsRow W1.heap.size 37 2 (.slice A3 (refT V i).length c3) (refT V i).length (flatS (refT V i)))) (fun _ v wr => V.length - (RowKit.intOf v).toNat)
  case atStart => exact ⟨0, rfl, Nat.zero_le _, none, 0, rfl, ⟨Below.refl _ _, World.ownsRow_nil _ _ _ _⟩⟩
  case round =>
    obtain ⟨i, rfl, hi, A3, c3, rfl, HI⟩ := hrel
    by_cases hlt : i < V.length
    · have d1 : decide (((i : Nat) : Int) < ((V.length : Nat) : Int)) = true := decide_eq_true (by omega)
      go_wp2_with fail
      generalize wr = Wo at *
      go_loopw [6, 7] (fun v6 v wr => ∃ k : Nat, v = .int .i64 (k : Nat) ∧ k ≤ V.length ∧ v6 = .bool (prt V V[i]! k) ∧ Aside0 (Below Wo.heap.size Wo wr)) (fun _ v wr => V.length - (RowKit.intOf v).toNat)
      case atStart => exact ⟨0, rfl, Nat.zero_le _, by rw [prt_zero], ⟨Below.refl _ _⟩⟩
      case round =>
        clear d1
        obtain ⟨k, rfl, hk, rfl, HK⟩ := hrel
        have p0 : ((0 : Int) ≤ ((i : Nat) : Int)) = True := eq_true (by omega)
        have p1 : (((i : Nat) : Int) < ((V.length : Nat) : Int)) = True := eq_true (by omega)
        have hE := ((owns_ed HB1.out.2).below (below_to HI.out.1 HK.out))
        obtain ⟨_, b, off, rfl, y0, y1, y2, y3, y4, y5⟩ := hE.cells i hlt
        by_cases hkt : k < V.length
        · have d1 : decide (((k : Nat) : Int) < ((V.length : Nat) : Int)) = true := decide_eq_true (by omega)
          have p2 : ((0 : Int) ≤ ((k : Nat) : Int)) = True := eq_true (by omega)
          have p3 : (((k : Nat) : Int) < ((V.length : Nat) : Int)) = True := eq_true (by omega)
          obtain ⟨_, b', off', e, z0, z1, z2, z3, z4, z5⟩ := hE.cells k hkt
          cases e
          have HPS := Aside0.mk (prt_succ V V[i]! k hkt)
          have hpk : ∃ t, prt V V[i]! k = t := ⟨_, rfl⟩
          obtain ⟨t, hpk⟩ := hpk
          rw [hpk] at HPS ⊢
          have HQ1 : Aside0 (∀ s, s = prt V V[i]! (k + 1) → s = prt V V[i]! (k + 1)) := ⟨fun s h => h⟩
          obtain ⟨s, hs⟩ : ∃ s, prt V V[i]! (k + 1) = s := ⟨_, rfl⟩
          have HSS := Aside0.mk hs
          rw [hs] at HPS
          clear hE hs HQ1
          generalize V[i]!.q = xq at *
          generalize V[i]!.p = xp at *
          generalize V[k]!.p = yp at *
          generalize V[k]!.q = yq at *
          clear hpk y1 y3 y4 y5 z1 z3 z4 z5
          cases t
          · by_cases h1 : xq = yp
            · have e1 : (xq.toList == yp.toList) = true := by rw [h1]; simp
              have HT : Aside0 (s = true) := ⟨by rw [HPS.out]; simp [h1]⟩
              clear h1 HPS
              go_wp2_with fail
              go_quiet (fail)
              go_wp2_with fail
              go_roundw
              case measure => show V.length - (k + 1) < V.length - k; omega
              case rel => exact ⟨k + 1, by first | rfl | (simp; done), by omega, by rw [HSS.out, HT.out], ⟨HK.out.trans (((Gr.refl wr).drewN nq).below.mono HK.out.size)⟩⟩
            · have e1 : (xq.toList == yp.toList) = false := by
                have : xq.toList ≠ yp.toList := fun h => h1 (toList_inj h)
                simpa using this
              by_cases h2 : yq = xp
              · have e2 : (yq.toList == xp.toList) = true := by rw [h2]; simp
                have HT : Aside0 (s = true) := ⟨by rw [HPS.out]; simp [h2]⟩
                clear h1 h2 HPS
                go_wp2_with fail
                go_quiet (fail)
                go_wp2_with fail
                go_roundw
                case measure => show V.length - (k + 1) < V.length - k; omega
                case rel => exact ⟨k + 1, by first | rfl | (simp; done), by omega, by rw [HSS.out, HT.out], ⟨HK.out.trans (((Gr.refl wr).drewN nq).below.mono HK.out.size)⟩⟩
              · have e2 : (yq.toList == xp.toList) = false := by
                  have : yq.toList ≠ xp.toList := fun h => h2 (toList_inj h)
                  simpa using this
                have HT : Aside0 (s = false) := ⟨by rw [HPS.out]; simp [h1, h2]⟩
                clear h1 h2 HPS
                go_wp2_with fail
                go_quiet (fail)
                go_wp2_with fail
                go_roundw
                case measure => show V.length - (k + 1) < V.length - k; omega
                case rel => exact ⟨k + 1, by first | rfl | (simp; done), by omega, by rw [HSS.out, HT.out], ⟨HK.out.trans (((Gr.refl wr).drewN nq).below.mono HK.out.size)⟩⟩
          · have HT : Aside0 (s = true) := ⟨by rw [HPS.out]; simp⟩
            clear HPS
            go_wp2_with fail
            go_quiet (fail)
            go_wp2_with fail
            go_roundw
            case measure => show V.length - (k + 1) < V.length - k; omega
            case rel => exact ⟨k + 1, by first | rfl | (simp; done), by omega, by rw [HSS.out, HT.out], ⟨HK.out.trans (((Gr.refl wr).drewN nq).below.mono HK.out.size)⟩⟩
        · have d1 : decide (((k : Nat) : Int) < ((V.length : Nat) : Int)) = false := decide_eq_false (by omega)
          obtain rfl : k = V.length := by omega
          have HST := Aside0.mk (refT_succ V i hlt)
          have hrl : (refT V i).length ≤ 1048576 := Nat.le_trans (refT_len V i) hVL
          have hpc := site_calls wr _ (refT V i) (V[i]!.p, V[i]!.n) (owns_below HI.out.2 HK.out) (below_to HI.out.1 HK.out).size hrl
          have HPC : Aside0 (Calls Tryz.prog 25 #[.slice A3 (refT V i).length c3, .agg #[.string V[i]!.p, .int .i64 V[i]!.n]] wr fun e W' => Below wr.heap.size wr W' ∧ ∃ v', e = .returned v' ∧ W'.ownsRow W1.heap.size 37 2 v' (ins lessS (refT V i) (V[i]!.p, V[i]!.n)).length (flatS (ins lessS (refT V i) (V[i]!.p, V[i]!.n)))) := ⟨hpc⟩
          clear hpc hE hrl
          obtain ⟨t, hpk⟩ : ∃ t, prt V V[i]! V.length = t := ⟨_, rfl⟩
          rw [hpk] at HST ⊢
          clear hpk
          generalize V[i]!.p = xp at *
          generalize V[i]!.n = xn at *
          cases t
          · have HS2 : Aside0 (refT V (i + 1) = refT V i) := ⟨HST.out⟩
            clear HST HPC
            go_wp2_with fail
            go_roundw
            case measure => show V.length - (i + 1) < V.length - i; omega
            case rel => exact ⟨i + 1, by first | rfl | (simp; done), by omega, A3, c3, by rw [HS2.out], by rw [HS2.out]; exact ⟨below_to HI.out.1 HK.out, owns_below HI.out.2 HK.out⟩⟩
          · have HS2 : Aside0 (refT V (i + 1) = ins lessS (refT V i) (xp, xn)) := ⟨HST.out⟩
            clear HST
            go_wp2_with (go_at_call 25; refine HPC.out.mono ?_; rintro e W2 ⟨hb2, v2, rfl, how2⟩; obtain ⟨A4, c4, rfl⟩ := owns_form how2; have HB2 := Aside0.mk (And.intro hb2 how2); clear hb2 how2)
            go_roundw
            case measure => show V.length - (i + 1) < V.length - i; omega
            case rel => exact ⟨i + 1, by first | rfl | (simp; done), by omega, A4, c4, by rw [HS2.out], by rw [HS2.out]; exact ⟨below_to (below_to HI.out.1 HK.out) HB2.out.1, HB2.out.2⟩⟩
    · have d1 : decide (((i : Nat) : Int) < ((V.length : Nat) : Int)) = false := decide_eq_false (by omega)
      obtain rfl : i = V.length := by omega
      have HF : Aside0 (Below W.heap.size W wr ∧ wr.ownsRow W.heap.size 37 2 (.slice A3 (refT V V.length).length c3) (refT V V.length).length (flatS (refT V V.length))) := ⟨below_to HB1.out.1 HI.out.1, owns_mono HI.out.2 HB1.out.1.size⟩
      go_wp2_with fail
      go_ret
      exact ⟨HF.out.1, _, rfl, HF.out.2⟩
end Go.Proofs.YtknpkfjaffhejaaGreat
