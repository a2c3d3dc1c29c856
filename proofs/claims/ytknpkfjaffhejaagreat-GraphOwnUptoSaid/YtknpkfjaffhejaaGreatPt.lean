/- WHAT IS PROVED: the reference's put: an edge in its place, once. -/
import Derived.Test.YtknpkfjaffhejaaGreatLr
import Derived.Test.YtknpkfjaffhejaaGreatDd
namespace Go.Proofs.YtknpkfjaffhejaaGreat
open Go.RowKit Go.Sort Go.Lib Go.Proofs.YtknpkfjaffhejaaGreatW.PrintWords Go.Proofs.YtknpkfjaffhejaaGreatW.PrintLast Go.Proofs.YtknpkfjaffhejaaGreatW.PrintMore
set_option linter.unusedVariables false
set_option linter.unusedSimpArgs false

theorem owns_below {W W' : World} {base : Nat} {e : TypeId} {size : Nat} {v : Value} {n : Nat} {xs : List Value} (h : W.ownsRow base e size v n xs) (hb : Below W.heap.size W W') : W'.ownsRow base e size v n xs := by
  obtain ⟨q, e'⟩ := h
  refine ⟨q, ?_⟩
  rcases e' with e' | ⟨g, cap, cur, e1, e2, e3, e4⟩
  · exact .inl e'
  · exact .inr ⟨g, cap, cur, e1, e2, (hb.block g (blk_lt e3)).trans e3, e4⟩
theorem owns_ed {W : World} {base : Nat} {v : Value} {l : List Edge} (h : W.ownsRow base 39 6 v l.length (flatE l)) : EdR base W v l := by
  obtain ⟨_, ⟨rfl, e⟩ | ⟨g, cap, cur, rfl, a2, a3, a4, a5, a6, a7⟩⟩ := h
  · exact EdR.nil none 0 (List.length_eq_zero_iff.1 e)
  · refine ⟨_, cap, rfl, fun _ => ⟨g, 0, rfl, a2, fun j u hj => ?_⟩⟩
    rw [Nat.zero_add, blk_cell a3, ← Array.getElem?_toList]
    rw [← a7, List.getElem?_take] at hj
    split at hj
    · exact hj
    · cases hj
theorem owns_kind {W : World} {base : Nat} {e : TypeId} {size : Nat} {v : Value} {n : Nat} {xs : List Value} (h : W.ownsRow base e size v n xs) : (v = .slice none 0 0 ∧ n = 0 ∧ xs = []) ∨ ∃ g c, v = .slice (some ⟨g, 0, none⟩) n c ∧ base ≤ g ∧ n ≤ c ∧ ∀ j u, xs[j]? = some u → W.cell? ⟨g, j, none⟩ = some u := by
  obtain ⟨q, ⟨rfl, rfl⟩ | ⟨g, cap, cur, rfl, a2, a3, a4, a5, a6, a7⟩⟩ := h
  · exact .inl ⟨rfl, rfl, List.length_eq_zero_iff.1 (by simpa using q)⟩
  · refine .inr ⟨g, cap, rfl, a2, a4, fun j u hj => ?_⟩
    rw [blk_cell a3, ← Array.getElem?_toList]
    rw [← a7, List.getElem?_take] at hj
    split at hj
    · exact hj
    · cases hj
/-- Nothing is appended. -/
theorem wpList_append_none {P : Program} (w : World) {ops : Array Oper} {rest : List Oper} {o : Oper} {a : Act} {Q : Exit → Act → World → Prop} (hgd : o.guard = none) (s x : Operand) (t : TypeId)
    (ho : o.op = .call { callee := .builtin .append, args := #[s, x], argTypes := #[t, t] })
    (base : Nat) (e : TypeId) (i : TypeInfo) (size : Nat) (ht : P.underlying t = some (.slice e)) (hi : P.info? e = some i)
    (v : Value) (n : Nat) (xs : List Value) (hs : a.eval s = v) (hown : w.ownsRow base e size v n xs) (hx : a.eval x = .slice none 0 0)
    (h : wpList P ops Q rest (a.put o.dst v) w) : wpList P ops Q (o :: rest) a w :=
  wpList_plain hgd fun _ hK => by
    have hr := run_append_owned_none (P := P) w base t o.type e i size ht hi v n xs hown
    unfold Oper.wp execOp
    simp only [ho, resolve, invoke, builtin, Sem.run_bind, Sem.run_pure, Result.andThen_ok, List.map_toArray, List.map_cons, List.map_nil, hs, hx, hr]
    exact hK _ _ h
theorem owns_cap {W : World} {base : Nat} {e : TypeId} {size : Nat} {a : Addr} {n m c : Nat} {xs : List Value} (h : W.ownsRow base e size (.slice (some a) m c) n xs) : n ≤ c := by
  rcases owns_kind h with ⟨h1, _⟩ | ⟨g, c', h1, _, hc, _⟩
  · cases h1
  · injection h1 with _ _ h1
    subst h1
    exact hc
theorem EdR.all {n0 : Nat} {W : World} {b off n c : Nat} {l : List Edge} (h : EdR n0 W (.slice (some ⟨b, off, none⟩) n c) l) : ∀ j u, (flatE l)[j]? = some u → W.cell? ⟨b, off + j, none⟩ = some u := by
  obtain ⟨A', c', e, hA⟩ := h
  injection e with e1 e2 e3
  subst e1
  intro j u hj
  by_cases hl : l = []
  · subst hl; simp [flatE] at hj
  · obtain ⟨b', off', e, _, hc⟩ := hA hl
    injection e with e
    injection e with e1 e2 _
    subst e1 e2
    exact hc j u hj
theorem flatE_app (l m : List Edge) : flatE (l ++ m) = flatE l ++ flatE m := by simp [flatE]
theorem flatE_take (l : List Edge) (i : Nat) (j : Nat) (u : Value) (h : (flatE (l.take i))[j]? = some u) : (flatE l)[j]? = some u := by
  have e : flatE l = flatE (l.take i) ++ flatE (l.drop i) := by rw [← flatE_app, List.take_append_drop]
  rw [e, List.getElem?_append_left (List.getElem?_eq_some_iff.1 h).1]
  exact h
theorem flatE_drop (l : List Edge) (i : Nat) (hi : i ≤ l.length) (j : Nat) (u : Value) (h : (flatE (l.drop i))[j]? = some u) : (flatE l)[i * 6 + j]? = some u := by
  have e : flatE l = flatE (l.take i) ++ flatE (l.drop i) := by rw [← flatE_app, List.take_append_drop]
  have hl : (flatE (l.take i)).length = i * 6 := by rw [flatE_len, List.length_take]; congr 1; omega
  rw [e, List.getElem?_append_right (by omega), hl, Nat.add_sub_cancel_left]
  exact h
theorem flatE_one1 (x : Edge) : flatE [x] = encE x := by simp [flatE]

set_option maxRecDepth 100000 in
set_option maxHeartbeats 8000000 in
theorem put_calls (W : World) (v : Value) (l : List Edge) (x : Edge) {base : Nat} (h : W.ownsRow base 39 6 v l.length (flatE l)) (hbase : base ≤ W.heap.size) (hn : l.length ≤ 1048576) :
    Calls Tryz.prog 39 #[v, .agg (encE x).toArray] W fun e W' => Below W.heap.size W W' ∧ ∃ v', e = .returned v' ∧ W'.ownsRow base 39 6 v' (ins lessE l x).length (flatE (ins lessE l x)) := by
  obtain ⟨p, n, q, m, k, vv⟩ := x
  show Calls Tryz.prog 39 #[v, .agg #[.string p, .int .i64 n, .string q, .int .i64 m, .int .i64 k, .bool vv]] W _
  have hu31 := Tryz.underlying39
  obtain ⟨A, c, rfl⟩ := owns_form h
  have hbx := heap_alloc_new W (.cells #[.string p, .int .i64 n, .string q, .int .i64 m, .int .i64 k, .bool vv] 39)
  have hGr := (Gr.refl W).alloc (.cells #[.string p, .int .i64 n, .string q, .int .i64 m, .int .i64 k, .bool vv] 39)
  have HOW := Aside0.mk h
  have HBX := Aside0.mk (And.intro hbx hGr)
  clear h hbx hGr
  go_enter Tryz.func39, Tryz.ntmps39
  go_wp2_with fail
  generalize W.alloc (.cells #[.string p, .int .i64 n, .string q, .int .i64 m, .int .i64 k, .bool vv] 39) = W0 at *
  go_loopw [5] (fun v wr => ∃ i : Nat, v = .int .i64 (i : Nat) ∧ i ≤ l.length ∧ Aside0 (Gr W0 wr ∧ ins lessE l ⟨p, n, q, m, k, vv⟩ = l.take i ++ ins lessE (l.drop i) ⟨p, n, q, m, k, vv⟩)) (fun v wr => l.length - (RowKit.intOf v).toNat)
  case atStart => exact ⟨0, rfl, Nat.zero_le _, ⟨Gr.refl _, by simp⟩⟩
  case round =>
    obtain ⟨i, rfl, hi, HI⟩ := hrel
    have HXB : Aside0 (∀ W', Below wr.heap.size wr W' → W'.cell? ⟨W.heap.size, 0, none⟩ = some (.string p) ∧ W'.cell? ⟨W.heap.size, 1, none⟩ = some (.int .i64 n) ∧ W'.cell? ⟨W.heap.size, 2, none⟩ = some (.string q) ∧ W'.cell? ⟨W.heap.size, 3, none⟩ = some (.int .i64 m) ∧ W'.cell? ⟨W.heap.size, 4, none⟩ = some (.int .i64 k) ∧ W'.cell? ⟨W.heap.size, 5, none⟩ = some (.bool vv)) := ⟨fun W' hb => by
      have e0 := (HI.out.1.below.block _ (blk_lt HBX.out.1)).trans HBX.out.1
      have e := (hb.block _ (blk_lt e0)).trans e0
      exact ⟨(blk_cell e 0).trans rfl, (blk_cell e 1).trans rfl, (blk_cell e 2).trans rfl, (blk_cell e 3).trans rfl, (blk_cell e 4).trans rfl, (blk_cell e 5).trans rfl⟩⟩
    have HB : Aside0 (Below W.heap.size W wr ∧ wr.ownsRow base 39 6 (.slice A l.length c) l.length (flatE l)) := by
      have hb := (HBX.out.2.trans HI.out.1).below
      exact ⟨hb, owns_below HOW.out hb⟩
    by_cases hlt : i < l.length
    · have d1 : decide (((i : Nat) : Int) < ((l.length : Nat) : Int)) = true := decide_eq_true (by omega)
      have p0 : ((0 : Int) ≤ ((i : Nat) : Int)) = True := eq_true (by omega)
      have p1 : (((i : Nat) : Int) < ((l.length : Nat) : Int)) = True := eq_true (by omega)
      have hE := owns_ed HB.out.2
      obtain ⟨_, b, off, rfl, _⟩ := hE.cells i hlt
      have HSK : Aside0 (∀ W', Gr wr W' → ((W'.cell? ⟨b, off + i * 6, none⟩ = some (.string l[i]!.p) ∧ W'.cell? ⟨b, off + i * 6 + 1, none⟩ = some (.int .i64 l[i]!.n) ∧ W'.cell? ⟨b, off + i * 6 + 2, none⟩ = some (.string l[i]!.q) ∧ W'.cell? ⟨b, off + i * 6 + 3, none⟩ = some (.int .i64 l[i]!.m) ∧ W'.cell? ⟨b, off + i * 6 + 4, none⟩ = some (.int .i64 l[i]!.k) ∧ W'.cell? ⟨b, off + i * 6 + 5, none⟩ = some (.bool l[i]!.v)) ∧
          (W'.cell? ⟨W.heap.size, 0, none⟩ = some (.string p) ∧ W'.cell? ⟨W.heap.size, 1, none⟩ = some (.int .i64 n) ∧ W'.cell? ⟨W.heap.size, 2, none⟩ = some (.string q) ∧ W'.cell? ⟨W.heap.size, 3, none⟩ = some (.int .i64 m) ∧ W'.cell? ⟨W.heap.size, 4, none⟩ = some (.int .i64 k) ∧ W'.cell? ⟨W.heap.size, 5, none⟩ = some (.bool vv))) ∧ Gr wr W') := ⟨fun W' hg => by
        obtain ⟨_, b', off', e, ys⟩ := (hE.below hg.below).cells i hlt
        cases e
        exact ⟨⟨ys, HXB.out W' hg.below⟩, hg⟩⟩
      have HSI := Aside0.mk (ins_step hlt HI.out.2)
      have HSS := Aside0.mk (ins_same hlt HI.out.2)
      have HSN := Aside0.mk (ins_new hlt HI.out.2)
      have hle := fun w => less_calls l[i]! ⟨p, n, q, m, k, vv⟩ w
      have hee := fun w => eqE l[i]! ⟨p, n, q, m, k, vv⟩ w
      clear hE
      obtain ⟨⟨p', n', q', m', k', v'⟩, hxe⟩ : ∃ y, l[i]! = y := ⟨_, rfl⟩
      rw [hxe] at HSK HSI HSS HSN hle hee
      clear hxe
      obtain ⟨⟨⟨y0, y1, y2, y3, y4, y5⟩, ⟨x0, x1, x2, x3, x4, x5⟩⟩, _⟩ := HSK.out wr (Gr.refl _)
      have HLE : Aside0 (∀ w, Calls Tryz.prog 56 #[.agg #[.string p', .int .i64 n', .string q', .int .i64 m', .int .i64 k', .bool v'], .agg #[.string p, .int .i64 n, .string q, .int .i64 m, .int .i64 k, .bool vv]] w fun e w' => e = .returned (.bool (lessE ⟨p', n', q', m', k', v'⟩ ⟨p, n, q, m, k, vv⟩)) ∧ Gr w w') := ⟨hle⟩
      have HEE : Aside0 (∀ w, Sem.run Tryz.prog (binOp .eql 39 (.agg #[.string p', .int .i64 n', .string q', .int .i64 m', .int .i64 k', .bool v']) (.agg #[.string p, .int .i64 n, .string q, .int .i64 m, .int .i64 k, .bool vv])) w = .ok (.bool (decide ((⟨p', n', q', m', k', v'⟩ : Edge) = ⟨p, n, q, m, k, vv⟩))) w) := ⟨hee⟩
      clear hle hee
      go_wp2_with fail
      go_region_held3 (fun W' => ((W'.cell? ⟨b, off + i * 6, none⟩ = some (.string p') ∧ W'.cell? ⟨b, off + i * 6 + 1, none⟩ = some (.int .i64 n') ∧ W'.cell? ⟨b, off + i * 6 + 2, none⟩ = some (.string q') ∧ W'.cell? ⟨b, off + i * 6 + 3, none⟩ = some (.int .i64 m') ∧ W'.cell? ⟨b, off + i * 6 + 4, none⟩ = some (.int .i64 k') ∧ W'.cell? ⟨b, off + i * 6 + 5, none⟩ = some (.bool v')) ∧ (W'.cell? ⟨W.heap.size, 0, none⟩ = some (.string p) ∧ W'.cell? ⟨W.heap.size, 1, none⟩ = some (.int .i64 n) ∧ W'.cell? ⟨W.heap.size, 2, none⟩ = some (.string q) ∧ W'.cell? ⟨W.heap.size, 3, none⟩ = some (.int .i64 m) ∧ W'.cell? ⟨W.heap.size, 4, none⟩ = some (.int .i64 k) ∧ W'.cell? ⟨W.heap.size, 5, none⟩ = some (.bool vv))) ∧ Gr wr W' ) (exact HSK.out _ (by repeat (first | assumption | exact Gr.refl _ | refine Gr.drew ?_ | refine Gr.alloc ?_ _))) (first | (go_at_call 56; refine (HLE.out _).mono ?_; rintro e w3 ⟨rfl, hg3⟩; have hq3 := Gr.trans (And.right (by assumption)) hg3))
      rename_i hlast
      have HL4 := Aside0.mk hlast
      have HG4 := Aside0.mk hlast.2
      clear hlast y0 y1 y2 y3 y4 y5 x0 x1 x2 x3 x4 x5 hg3 hq3
      cases hls : lessE ⟨p', n', q', m', k', v'⟩ ⟨p, n, q, m, k, vv⟩
      · have hgu : ∀ (op : BinOp) (a b : Operand) w, Sem.run Tryz.prog (eqGuard op 39 a b (.agg #[.string p', .int .i64 n', .string q', .int .i64 m', .int .i64 k', .bool v']) (.agg #[.string p, .int .i64 n, .string q, .int .i64 m, .int .i64 k, .bool vv])) w = .ok () w := fun op a b w => guardE op a b ⟨p', n', q', m', k', v'⟩ ⟨p, n, q, m, k, vv⟩ w
        obtain ⟨⟨⟨y0, y1, y2, y3, y4, y5⟩, ⟨x0, x1, x2, x3, x4, x5⟩⟩, hgr4⟩ := HL4.out
        by_cases he : (⟨p', n', q', m', k', v'⟩ : Edge) = ⟨p, n, q, m, k, vv⟩
        · have HIN := Aside0.mk (HSS.out hls he)
          have hd : decide ((⟨p', n', q', m', k', v'⟩ : Edge) = ⟨p, n, q, m, k, vv⟩) = true := decide_eq_true he
          have hee : ∀ w, Sem.run Tryz.prog (binOp .eql 39 (.agg #[.string p', .int .i64 n', .string q', .int .i64 m', .int .i64 k', .bool v']) (.agg #[.string p, .int .i64 n, .string q, .int .i64 m, .int .i64 k, .bool vv])) w = .ok (.bool true) w := fun w => by rw [HEE.out w, hd]
          clear he hd HSI HSS HSN
          go_wp2_with fail
          go_quiet (fail)
          have HG5 : Aside0 (Gr wr (w3.drewN nq)) := ⟨hgr4.drewN nq⟩
          go_wp2_with fail
          go_ret
          exact ⟨below_to HB.out.1 HG5.out.below, _, rfl, by rw [HIN.out]; exact owns_below HB.out.2 HG5.out.below⟩
        · have HIN := Aside0.mk (HSN.out hls he)
          have hd : decide ((⟨p', n', q', m', k', v'⟩ : Edge) = ⟨p, n, q, m, k, vv⟩) = false := decide_eq_false he
          have hee : ∀ w, Sem.run Tryz.prog (binOp .eql 39 (.agg #[.string p', .int .i64 n', .string q', .int .i64 m', .int .i64 k', .bool v']) (.agg #[.string p, .int .i64 n, .string q, .int .i64 m, .int .i64 k, .bool vv])) w = .ok (.bool false) w := fun w => by rw [HEE.out w, hd]
          clear he hd HSI HSS HSN
          go_wp2_with fail
          go_quiet (fail)
          have HG5 : Aside0 (Gr wr (w3.drewN nq)) := ⟨hgr4.drewN nq⟩
          clear y0 y1 y2 y3 y4 y5 x0 x1 x2 x3 x4 x5 hgr4
          generalize w3.drewN nq = WT at *
          have HXB2 : Aside0 (∀ W', Below WT.heap.size WT W' → W'.cell? ⟨W.heap.size, 0, none⟩ = some (.string p) ∧ W'.cell? ⟨W.heap.size, 1, none⟩ = some (.int .i64 n) ∧ W'.cell? ⟨W.heap.size, 2, none⟩ = some (.string q) ∧ W'.cell? ⟨W.heap.size, 3, none⟩ = some (.int .i64 m) ∧ W'.cell? ⟨W.heap.size, 4, none⟩ = some (.int .i64 k) ∧ W'.cell? ⟨W.heap.size, 5, none⟩ = some (.bool vv)) := ⟨fun W' hb => HXB.out W' (below_to HG5.out.below hb)⟩
          have HBT : Aside0 (Below W.heap.size W WT) := ⟨below_to HB.out.1 HG5.out.below⟩
          have hlc : l.length ≤ c := owns_cap HB.out.2
          have HCL : Aside0 (∀ j u, (flatE l)[j]? = some u → WT.cell? ⟨b, off + j, none⟩ = some u) := ⟨(owns_ed (owns_below HB.out.2 HG5.out.below)).all⟩
          clear HB HXB HG5
          obtain ⟨i0, hi0, hz0, hz1, hz2⟩ := info_parts info31s
          have t22 := Tryz.underlying22
          go_wp2_with (at_builtin; refine wpList_append_own _ rfl _ _ 22 rfl WT.heap.size 39 i0 (.agg (encE zrE).toArray) 6 64 t22 hi0 hz0 hz1 hz2 rfl (by omega) (.slice none 0 0) 0 [] rfl (World.ownsRow_nil _ _ _ _) ⟨b, off, none⟩ i _ (flatE (l.take i)) rfl ?qa1 ?qa2 ?qa3 ?qa4 ?qa5 (Nat.le_refl _) ?_)
          case qa1 => first | (rw [flatE_len, List.length_take]; congr 1; omega) | (rw [flatE_len])
          case qa2 =>
            intro j u hj
            try rw [Addr.add_lit]
            first | exact HCL.out j u (flatE_take l _ j u hj) | exact HCL.out j u hj
          case qa3 => exact flatE_one _
          case qa4 => unfold maxLen; omega
          case qa5 => omega
          intro v1 W1 hown1 hg1 hnil1
          obtain ⟨A1, c1, rfl⟩ := owns_form hown1
          obtain ⟨x0, x1, x2, x3, x4, x5⟩ := HXB2.out W1 (grownBy_below hg1 (Nat.le_refl _) (fun _ e => by cases e))
          have HO1 := Aside0.mk (And.intro hown1 hg1)
          clear hown1 hg1 hnil1
          go_wp2_with (at_builtin; refine wpList_append_own _ rfl _ _ 22 rfl WT.heap.size 39 i0 (.agg (encE zrE).toArray) 6 64 t22 hi0 hz0 hz1 hz2 rfl (by omega) _ _ _ rfl (HO1.out.1.alloc _) ⟨W1.heap.size, 0, none⟩ 1 1 (encE ⟨p, n, q, m, k, vv⟩) rfl rfl ?qb2 (encE_one _) ?qb4 ?qb5 ?qb6 ?_)
          case qb2 =>
            intro j u hj
            rw [Addr.add_lit, Nat.zero_add, blk_cell (heap_alloc_new W1 _)]
            simpa [encE] using hj
          case qb4 => unfold maxLen; omega
          case qb5 => omega
          case qb6 =>
            rw [World.size_alloc]
            have := HO1.out.2.size
            omega
          intro v2 W2 hown2 hg2 hnil2
          obtain ⟨A2, c2, rfl⟩ := owns_form hown2
          have HB2 : Aside0 (Below WT.heap.size WT W2) := ⟨by
            have hb1 : Below WT.heap.size WT W1 := grownBy_below HO1.out.2 (Nat.le_refl _) (fun _ e => by cases e)
            exact (below_mk hb1 _).trans (grownBy_below hg2 (below_mk hb1 _).size (fun k e => (HO1.out.1.lt k e).1))⟩
          have HO2 := Aside0.mk hown2
          clear hown2 hg2 hnil2
          go_wp2_with (at_builtin; refine wpList_append_own _ rfl _ _ 22 rfl WT.heap.size 39 i0 (.agg (encE zrE).toArray) 6 64 t22 hi0 hz0 hz1 hz2 rfl (by omega) _ _ _ rfl HO2.out ⟨b, _, none⟩ _ _ (flatE (l.drop i)) rfl (by rw [flatE_len, List.length_drop]) ?qc2 ?qc3 ?qc4 ?qc5 ?qc6 ?_)
          case qc2 =>
            intro j u hj
            rw [Addr.add_lit]
            have := cell_below HB2.out (HCL.out (i * 6 + j) u (flatE_drop l i hi j u hj))
            rw [← this]
            congr 2
            omega
          case qc3 => exact flatE_one _
          case qc4 => unfold maxLen; omega
          case qc5 => omega
          case qc6 => exact HB2.out.size
          intro v3 W3 hown3 hg3 hnil3
          go_wp2
          go_ret
          refine ⟨below_to HBT.out (HB2.out.trans (grownBy_below hg3 HB2.out.size (fun k e => (HO2.out.lt k e).1))), _, rfl, ?_⟩
          rw [HIN.out]
          refine owns_mono ?_ (Nat.le_trans hbase HBT.out.size)
          have e1 : i + 1 + (l.length - i) = (l.take i ++ [(⟨p, n, q, m, k, vv⟩ : Edge)] ++ l.drop i).length := by simp; omega
          rw [e1] at hown3
          rw [flatE_app, flatE_app, flatE_one1]
          simpa using hown3
      · rw [hls] at HSI
        have HSI2 := HSI.out rfl
        have HSIA := Aside0.mk HSI2
        clear HSI2
        go_wp2_with fail
        go_roundw
        case measure => show l.length - (i + 1) < l.length - i; omega
        case rel => exact ⟨i + 1, by first | rfl | (simp; done), by omega, ⟨HI.out.1.trans HG4.out, HSIA.out⟩⟩
    · have d1 : decide (((i : Nat) : Int) < ((l.length : Nat) : Int)) = false := decide_eq_false (by omega)
      obtain rfl : i = l.length := by omega
      have HIN := Aside0.mk (ins_end HI.out.2)
      go_wp2_with fail
      go_quiet (fail)
      have hga : Gr wr (wr.drewN nq) := (Gr.refl wr).drewN nq
      generalize wr.drewN nq = Wa at *
      go_wp2_with fail
      go_quiet (fail)
      have HG5 : Aside0 (Gr wr (Wa.drewN nq)) := ⟨hga.drewN nq⟩
      clear hga
      generalize Wa.drewN nq = WT at *
      rcases owns_kind HOW.out with ⟨h1, h2, h3⟩ | ⟨g, c', h1, _, hlc, _⟩
      · injection h1 with h1 h1' h1''
        subst h1 h1''
        obtain rfl : l = [] := List.length_eq_zero_iff.1 h2
        have HXB2 : Aside0 (∀ W', Below WT.heap.size WT W' → W'.cell? ⟨W.heap.size, 0, none⟩ = some (.string p) ∧ W'.cell? ⟨W.heap.size, 1, none⟩ = some (.int .i64 n) ∧ W'.cell? ⟨W.heap.size, 2, none⟩ = some (.string q) ∧ W'.cell? ⟨W.heap.size, 3, none⟩ = some (.int .i64 m) ∧ W'.cell? ⟨W.heap.size, 4, none⟩ = some (.int .i64 k) ∧ W'.cell? ⟨W.heap.size, 5, none⟩ = some (.bool vv)) := ⟨fun W' hb => HXB.out W' (below_to HG5.out.below hb)⟩
        have HBT : Aside0 (Below W.heap.size W WT) := ⟨below_to HB.out.1 HG5.out.below⟩
        clear HB HXB HG5 h2 h3
        obtain ⟨x0, x1, x2, x3, x4, x5⟩ := HXB2.out WT (Below.refl _ _)
        obtain ⟨i0, hi0, hz0, hz1, hz2⟩ := info_parts info31s
        have t22 := Tryz.underlying22
        go_wp2_with (first | (at_builtin; refine wpList_append_none _ rfl _ _ 22 rfl WT.heap.size 39 i0 6 t22 hi0 (.slice none 0 0) 0 [] rfl (World.ownsRow_nil _ _ _ _) rfl ?_) | (at_builtin; refine wpList_append_own _ rfl _ _ 22 rfl WT.heap.size 39 i0 (.agg (encE zrE).toArray) 6 64 t22 hi0 hz0 hz1 hz2 rfl (by omega) (.slice none 0 0) 0 [] rfl (World.ownsRow_nil _ _ _ _) ⟨WT.heap.size, 0, none⟩ 1 1 (encE ⟨p, n, q, m, k, vv⟩) rfl rfl ?qb2 (encE_one _) ?qb4 ?qb5 ?qb6 ?_))
        case qb2 =>
          intro j u hj
          rw [Addr.add_lit, Nat.zero_add, blk_cell (heap_alloc_new WT _)]
          simpa [encE] using hj
        case qb4 => unfold maxLen; omega
        case qb5 => omega
        case qb6 => simp
        intro v2 W2 hown2 hg2 hnil2
        obtain ⟨A2, c2, rfl⟩ := owns_form hown2
        have HO2 := Aside0.mk (And.intro hown2 hg2)
        clear hown2 hg2 hnil2
        go_wp2_with (at_builtin; refine wpList_append_none _ rfl _ _ 22 rfl WT.heap.size 39 i0 6 t22 hi0 _ _ _ rfl HO2.out.1 rfl ?_)
        go_ret
        refine ⟨below_to HBT.out ((below_mk (Below.refl _ WT) _).trans (grownBy_below HO2.out.2 (by simp) (fun _ e => by cases e))), _, rfl, ?_⟩
        refine owns_mono ?_ (Nat.le_trans hbase HBT.out.size)
        simpa [ins, flatE] using HO2.out.1
      · injection h1 with h1 _ h1''
        subst h1 h1''
        obtain ⟨b, off, hbo⟩ : ∃ b off, (⟨g, 0, none⟩ : Addr) = ⟨b, off, none⟩ := ⟨g, 0, rfl⟩
        rw [hbo] at HB HOW
        simp only [hbo]
        clear hbo
        have HXB2 : Aside0 (∀ W', Below WT.heap.size WT W' → W'.cell? ⟨W.heap.size, 0, none⟩ = some (.string p) ∧ W'.cell? ⟨W.heap.size, 1, none⟩ = some (.int .i64 n) ∧ W'.cell? ⟨W.heap.size, 2, none⟩ = some (.string q) ∧ W'.cell? ⟨W.heap.size, 3, none⟩ = some (.int .i64 m) ∧ W'.cell? ⟨W.heap.size, 4, none⟩ = some (.int .i64 k) ∧ W'.cell? ⟨W.heap.size, 5, none⟩ = some (.bool vv)) := ⟨fun W' hb => HXB.out W' (below_to HG5.out.below hb)⟩
        have HBT : Aside0 (Below W.heap.size W WT) := ⟨below_to HB.out.1 HG5.out.below⟩
        have hlc : l.length ≤ c := owns_cap HB.out.2
        have HCL : Aside0 (∀ j u, (flatE l)[j]? = some u → WT.cell? ⟨b, off + j, none⟩ = some u) := ⟨(owns_ed (owns_below HB.out.2 HG5.out.below)).all⟩
        clear HB HXB HG5
        obtain ⟨i0, hi0, hz0, hz1, hz2⟩ := info_parts info31s
        have t22 := Tryz.underlying22
        go_wp2_with (at_builtin; refine wpList_append_own _ rfl _ _ 22 rfl WT.heap.size 39 i0 (.agg (encE zrE).toArray) 6 64 t22 hi0 hz0 hz1 hz2 rfl (by omega) (.slice none 0 0) 0 [] rfl (World.ownsRow_nil _ _ _ _) ⟨b, off, none⟩ l.length _ (flatE (l.take l.length)) rfl ?qa1 ?qa2 ?qa3 ?qa4 ?qa5 (Nat.le_refl _) ?_)
        case qa1 => first | (rw [flatE_len, List.length_take]; congr 1; omega) | (rw [flatE_len])
        case qa2 =>
          intro j u hj
          try rw [Addr.add_lit]
          first | exact HCL.out j u (flatE_take l _ j u hj) | exact HCL.out j u hj
        case qa3 => exact flatE_one _
        case qa4 => unfold maxLen; omega
        case qa5 => omega
        intro v1 W1 hown1 hg1 hnil1
        obtain ⟨A1, c1, rfl⟩ := owns_form hown1
        obtain ⟨x0, x1, x2, x3, x4, x5⟩ := HXB2.out W1 (grownBy_below hg1 (Nat.le_refl _) (fun _ e => by cases e))
        have HO1 := Aside0.mk (And.intro hown1 hg1)
        clear hown1 hg1 hnil1
        go_wp2_with (at_builtin; refine wpList_append_own _ rfl _ _ 22 rfl WT.heap.size 39 i0 (.agg (encE zrE).toArray) 6 64 t22 hi0 hz0 hz1 hz2 rfl (by omega) _ _ _ rfl (HO1.out.1.alloc _) ⟨W1.heap.size, 0, none⟩ 1 1 (encE ⟨p, n, q, m, k, vv⟩) rfl rfl ?qb2 (encE_one _) ?qb4 ?qb5 ?qb6 ?_)
        case qb2 =>
          intro j u hj
          rw [Addr.add_lit, Nat.zero_add, blk_cell (heap_alloc_new W1 _)]
          simpa [encE] using hj
        case qb4 => unfold maxLen; omega
        case qb5 => omega
        case qb6 =>
          rw [World.size_alloc]
          have := HO1.out.2.size
          omega
        intro v2 W2 hown2 hg2 hnil2
        obtain ⟨A2, c2, rfl⟩ := owns_form hown2
        have HB2 : Aside0 (Below WT.heap.size WT W2) := ⟨by
          have hb1 : Below WT.heap.size WT W1 := grownBy_below HO1.out.2 (Nat.le_refl _) (fun _ e => by cases e)
          exact (below_mk hb1 _).trans (grownBy_below hg2 (below_mk hb1 _).size (fun k e => (HO1.out.1.lt k e).1))⟩
        have HO2 := Aside0.mk hown2
        clear hown2 hg2 hnil2
        obtain ⟨ad, had⟩ : ∃ ad, (if c = l.length then some (⟨b, off, none⟩ : Addr) else some ⟨b, off + l.length * 6, none⟩) = some ad := by split <;> exact ⟨_, rfl⟩
        go_wp2_with (at_builtin; go_loud (refine wpList_append_own _ rfl _ _ 22 rfl WT.heap.size 39 i0 (.agg (encE zrE).toArray) 6 64 t22 hi0 hz0 hz1 hz2 rfl (by omega) _ _ _ rfl HO2.out ad 0 (c - l.length) (flatE (l.drop l.length)) rfl (by simp [flatE]) ?qc2 ?qc3 ?qc4 ?qc5 ?qc6 ?_))
        case qc2 =>
          intro j u hj
          simp [flatE] at hj
        case qc3 => exact flatE_one _
        case qc4 => unfold maxLen; omega
        case qc5 => omega
        case qc6 => exact HB2.out.size
        intro v3 W3 hown3 hg3 hnil3
        go_wp2
        go_ret
        refine ⟨below_to HBT.out (HB2.out.trans (grownBy_below hg3 HB2.out.size (fun k e => (HO2.out.lt k e).1))), _, rfl, ?_⟩
        rw [HIN.out]
        refine owns_mono ?_ (Nat.le_trans hbase HBT.out.size)
        rw [flatE_app, flatE_app, flatE_one1]
        simpa [flatE] using hown3
end Go.Proofs.YtknpkfjaffhejaaGreat
