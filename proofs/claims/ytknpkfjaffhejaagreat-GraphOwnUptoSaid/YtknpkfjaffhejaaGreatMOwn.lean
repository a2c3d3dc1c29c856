/- WHAT IS PROVED: GraphOwn answers true at edges. | WHAT IS PROVED: GraphOwn answers true for every edges and procedure, where what it reads is of bulk at most 1048576. -/
import Derived.Test.YtknpkfjaffhejaaGreatRe
import Derived.Test.YtknpkfjaffhejaaGreatRs
import Derived.Test.YtknpkfjaffhejaaGreatBq
import Derived.Test.YtknpkfjaffhejaaGreatVq
import Derived.Test.YtknpkfjaffhejaaGreatOa
import Derived.Deep.RegionLaw
import Derived.Test.YtknpkfjaffhejaaGreatOpn
import Derived.ChangeMaps5
namespace Go.Proofs.YtknpkfjaffhejaaGreat
open Go.RowKit Go.Sort Go.Lib Go.Proofs.YtknpkfjaffhejaaGreatW.PrintWords Go.Proofs.YtknpkfjaffhejaaGreatW.PrintLast Go.Proofs.YtknpkfjaffhejaaGreatW.PrintMore
attribute [local go_sem] Oper.semAt_some
set_option linter.unusedVariables false
set_option linter.unusedSimpArgs false

theorem names_eq {D : List (Edge × Edge)} {names : List ByteArray} (h1 : names.Pairwise (fun x y => blt x y = true)) (h2 : ∀ s, s ∈ names ↔ s ∈ D.map fun x => x.1.q) : names = refP D :=
  sorted_uniq bltSto _ _ h1 (insAll_sorted bltSto _) fun x => by rw [refP, mem_insAll bltSto, h2]
theorem w64 (n : Nat) (h : n < 9223372036854775808) : wrap64 (n : Int) = (n : Int) := by
  unfold wrap64
  omega

theorem step_append_x {ops : Array Oper} {o : Oper} {a : Act} {w w2 : World} {K : Act → World → Prop} {Q : Exit → Act → World → Prop} {E : Prop} {v v1 v2 : Value}
    (hg : o.guard = none) (s x : Operand) (hop : o.op = Op.call { callee := Callee.builtin Builtin.append, args := #[s, x], argTypes := #[22, 22] }) (hs : a.eval s = v1) (hx : a.eval x = v2)
    (hrun : ∀ ty, Sem.run Tryz.prog (Builtin.append_ #[22, 22] ty #[v1, v2]) w = .ok v w2) (hK : K (a.put o.dst v) w2) :
    if Region.wanted o (yielded ops a.tmps) = true then Oper.wp Tryz.prog o a w K Q else E := by
  have hw : Region.wanted o (yielded ops a.tmps) = true := by simp [Region.wanted, hg]
  rw [if_pos hw]
  unfold Oper.wp
  simp [execOp, hop, resolve, invoke, builtin, hs, hx, hrun, Result.andThen]
  exact hK
/-- A part of the text, alone: what it leaves in the slots and of the world. -/
theorem wp_partT {P : Program} {c : Code} {Q : Exit → Act → World → Prop} {a : Act} {w : World} (T : Array Value) (Dl : List Deferred) (R : World → Prop)
    (h : c.wp P (Exit.then (fun a' w' => a' = { tmps := T, defers := Dl } ∧ R w') (fun _ _ _ => False)) a w) (hr : ∀ w', R w' → Q .normal { tmps := T, defers := Dl } w') : c.wp P Q a w :=
  Go.wp_mono h fun e a' w' hq => by
    cases e with
    | normal => obtain ⟨rfl, h2⟩ := hq; exact hr _ h2
    | _ => exact hq.elim

/-- A part of the text, alone: what holds behind it. -/
theorem wp_partG {P : Program} {c : Code} {Q : Exit → Act → World → Prop} {a : Act} {w : World} (G : Act → World → Prop)
    (h : c.wp P (Exit.then G (fun _ _ _ => False)) a w) (hr : ∀ a' w', G a' w' → Q .normal a' w') : c.wp P Q a w :=
  Go.wp_mono h fun e a' w' hq => by
    cases e with
    | normal => exact hr _ _ hq
    | _ => exact hq.elim

/-- A slice that may be written over. -/
def Spb (base : Nat) (W : World) (A : Option Addr) (n m : Nat) : Prop := n ≠ 0 → ∃ g, A = some ⟨g, 0, none⟩ ∧ base ≤ g ∧ Frm W g m
theorem Spb.below {base : Nat} {W W' : World} {A : Option Addr} {n m : Nat} (h : Spb base W A n m) (hb : Below W.heap.size W W') : Spb base W' A n m := fun hn => by
  obtain ⟨g, e, h1, h2⟩ := h hn
  exact ⟨g, e, h1, h2.below hb⟩
theorem Spb.mono {base base' : Nat} {W : World} {A : Option Addr} {n m : Nat} (h : Spb base W A n m) (hb : base' ≤ base) : Spb base' W A n m := fun hn => by
  obtain ⟨g, e, h1, h2⟩ := h hn
  exact ⟨g, e, Nat.le_trans hb h1, h2⟩
theorem Spb.sp {base b n3 n4 : Nat} {W W' : World} {A : Option Addr} {n m : Nat} (h : Spb base W A n m) (hs : Sp b n3 n4 W W') : Spb base W' A n m := fun hn => by
  obtain ⟨g, e, h1, h2⟩ := h hn
  exact ⟨g, e, h1, hs.frm _ _ h2⟩
theorem spb_owns {W : World} {base : Nat} {A : Option Addr} {c n : Nat} {xs : List Value} (h : W.ownsRow base 9 1 (.slice A n c) n xs) : Spb base W A n n := fun hn => by
  obtain ⟨g, c', e, h1, h2⟩ := owns_frm h hn
  injection e with e
  exact ⟨g, e, h1, by rw [Nat.mul_one] at h2; exact h2⟩
theorem spb_si {W : World} {base : Nat} {A : Option Addr} {c : Nat} {T : List SI} (h : SiO base W (.slice A T.length c) T) : Spb base W A T.length (T.length * 2) := fun hn => by
  obtain ⟨g, c', e, h1, h2⟩ := h.2 (fun e => hn (by rw [e]; rfl))
  injection e with e
  exact ⟨g, e, h1, h2⟩

set_option maxRecDepth 100000 in
set_option maxHeartbeats 16000000 in
theorem graphOwn_calls (W : World) (v : Value) (l : List Edge) (proc : ByteArray) {m0 : Nat} (h : EdR m0 W v l) (hn : l.length ≤ 1048576) (hs : ∀ e ∈ l, okE e) :
    Calls Tryz.prog 4 #[v, .string proc] W fun e W' => e = .returned (.bool true) ∧ Below W.heap.size W W' := by
  have h' := h
  obtain ⟨A, c, rfl, hA⟩ := h'
  have hA0 : Aside0 (A = none → l = []) := ⟨fun e => Classical.byContradiction fun hl => by
    obtain ⟨_, _, e2, _⟩ := hA hl
    rw [e] at e2
    cases e2⟩
  clear hA
  have H5 : Aside0 (∀ W', Calls Tryz.prog 5 #[] W' fun e W'' => Below W'.heap.size W' W'' ∧ e = .returned (.bool true)) := ⟨fun W' => (begun_calls W').mono fun e W'' ⟨he, hb⟩ => ⟨hb, he⟩⟩
  have HE := Aside0.mk h
  have HS := Aside0.mk hs
  clear h hs
  have hn0 := heap_alloc_new W (.cells #[.slice A l.length c] 22)
  have hb0 := below_mk (Below.refl W.heap.size W) (.cells #[.slice A l.length c] 22)
  have HN0 := Aside0.mk (And.intro hn0 hb0)
  clear hn0 hb0
  refine (callsIn_wide (n := 5)).1 ?_
  refine callsIn_of_wp_marks Tryz.func4 rfl trivial ?_ rfl
  simp only [Tryz.ntmps4, List.size_toArray, List.length_cons, List.length_nil, Nat.reduceAdd, Nat.reduceSub, Array.replicate_succ, Array.replicate_zero, List.push_toArray, List.append_toArray, List.nil_append, List.cons_append]
  refine wpIn_wide.2 ?_
  go_wp2_with (go_at_call 5; refine (H5.out _).mono ?_; rintro e W2 ⟨hb1, rfl⟩; have HB1 := Aside0.mk hb1; clear hb1)
  have hB2 := HN0.out.2.trans (HB1.out.mono (by simp))
  have hc2 : W2.cell? ⟨W.heap.size, 0, none⟩ = some (.slice A l.length c) := (blk_cell ((HB1.out.block _ (by simp)).trans HN0.out.1) 0).trans rfl
  have hlt2 : W.heap.size < W2.heap.size := by have := HB1.out.size; simp at this; omega
  have HB2 := Aside0.mk (And.intro hB2 (And.intro hc2 hlt2))
  have hE2 := HE.out.below hB2
  have hwr : IntKind.i64.wrap ((l.length : Int) + 2) = (l.length : Int) + 2 := by
    have := wrap_small (l.length + 2) (by omega)
    exact this
  have hmk : ∀ w, Sem.run Tryz.prog (Instr.makeSlice 22 (.int .i64 0) (.int .i64 (((l.length : Nat) : Int) + 2))) w = .ok (.slice (some ⟨w.heap.size, 0, none⟩) 0 (l.length + 2)) (w.alloc (.cells (madeCells (encE zrE).toArray ((l.length + 2) * 6)) 39)) := fun w => by
    have := make_x w (l.length + 2) (by omega)
    simpa using this
  have hc3 : ∀ o, (W2.alloc o).cell? ⟨W.heap.size, 0, none⟩ = some (.slice A l.length c) := fun o => cell_below (below_mk (Below.refl _ _) o) hc2
  have HAP : Aside0 (∀ w ty, w.heap = (W2.alloc (.cells (madeCells (encE zrE).toArray ((l.length + 2) * 6)) 39)).heap → Sem.run Tryz.prog (Builtin.append_ #[22, 22] ty #[.slice (some ⟨W2.heap.size, 0, none⟩) 0 (l.length + 2), .slice A l.length c]) w = .ok (.slice (some ⟨W2.heap.size, 0, none⟩) l.length (l.length + 2)) (w.setCells W2.heap.size 0 (flatE l))) := ⟨fun w ty hw => by
    refine append_x w W2.heap.size l A c ⟨madeCells (encE zrE).toArray ((l.length + 2) * 6), ?_, size_madeCells _ _⟩ hA0.out (fun ad e j u hj => ?_) ty
    · rw [hw]; exact heap_alloc_new W2 _
    · obtain ⟨A', c', e1, hA⟩ := hE2.below (below_mk (Below.refl _ _) (.cells (madeCells (encE zrE).toArray ((l.length + 2) * 6)) 39))
      injection e1 with e1 e2 e3
      subst e1
      subst e
      have hl : l ≠ [] := fun e => by subst e; simp [flatE] at hj
      obtain ⟨b, off, e4, _, hc⟩ := hA hl
      injection e4 with e4
      subst e4
      rw [Addr.add_lit]
      have := hc j u hj
      unfold World.cell? at this ⊢
      rw [hw]
      exact this⟩
  have HRM : Aside0 (∀ w, w.heap = (W2.alloc (.cells (madeCells (encE zrE).toArray ((l.length + 2) * 6)) 39)).heap → Below W2.heap.size W2 w → Rm (w.setCells W2.heap.size 0 (flatE l)) W2.heap.size l ∧ Below W2.heap.size W2 (w.setCells W2.heap.size 0 (flatE l)) ∧ W2.heap.size < (w.setCells W2.heap.size 0 (flatE l)).heap.size) := ⟨fun w hw hb => by
    refine ⟨room_x w _ l (by rw [hw]; exact heap_alloc_new W2 _), below_setCells (Nat.le_refl _) _ _ _ hb, ?_⟩
    rw [size_setCells, hw]
    simp⟩
  clear hB2 hE2
  refine wp_partT #[Value.slice A l.length c, Value.string proc, Value.pointer (some ⟨W.heap.size, 0, none⟩), undef, Value.bool false, Value.slice (some ⟨W2.heap.size, 0, none⟩) l.length (l.length + 2), undef, undef, undef, undef, undef, undef, undef, undef, undef, undef, Value.bool true, Value.bool false, Value.slice A l.length c, Value.int .i64 l.length, Value.int .i64 ((l.length : Int) + 2), Value.slice (some ⟨W2.heap.size, 0, none⟩) 0 (l.length + 2), Value.slice A l.length c, Value.slice (some ⟨W2.heap.size, 0, none⟩) l.length (l.length + 2), undef, undef, undef, undef, undef, undef, undef, undef, undef, undef, undef, undef, undef, undef, undef, undef, undef, undef, undef, undef, undef, undef, undef, undef, undef, undef, undef, undef, undef, undef, undef, undef, undef, undef, undef, undef, undef, undef, undef, undef, undef, undef, undef, undef, undef, undef, undef, undef, undef, undef, undef, undef, undef, undef, undef, undef, undef, undef, undef, undef, undef, undef, undef, undef, undef, undef, undef, undef, undef, undef, undef, undef, undef, undef, undef, undef, undef, undef, undef, undef, undef, undef, undef, undef, undef, undef, undef, undef, undef, undef, undef, undef, undef, undef, undef, undef, undef, undef, undef, undef, undef, undef, undef, undef] [] (fun wx => Aside0 (Rm wx W2.heap.size l ∧ Below W2.heap.size W2 wx ∧ W2.heap.size < wx.heap.size)) ?r3 ?rest3
  case r3 =>
    go_region_law (refine step_append_x rfl (.tmp 21) (.tmp 22) rfl (by simp [Act.eval, Act.put]) (by simp [Act.eval, Act.put]) (fun ty => HAP.out _ ty rfl) ?_)
    all_goals exact ⟨rfl, ⟨HRM.out _ rfl (by first | exact ((Gr.refl W2).alloc _).drew.below | exact ((Gr.refl W2).alloc _).drew.drew.below | exact ((Gr.refl W2).alloc _).below | exact ((Gr.refl W2).alloc _).drew.drew.drew.below)⟩⟩
  case rest3 =>
  intro W3 H3
  clear hmk hc3 hc2 hlt2 hwr HAP HRM
  obtain ⟨D, hD⟩ : ∃ D, D = dangersE (vulE l) := ⟨_, rfl⟩
  obtain ⟨T, hT⟩ : ∃ T, T = refT (vulE l) (vulE l).length := ⟨_, rfl⟩
  have hDL : D.length ≤ 1099511627776 := by rw [hD]; exact dangers_len _ (Nat.le_trans (vulE_len l) hn)
  have hPL : (refP D).length ≤ 1099511627776 := Nat.le_trans (refP_len _) hDL
  have hTL : T.length ≤ 1048576 := by
    have := refT_len (vulE l) (vulE l).length
    have := vulE_len l
    rw [hT]
    omega
  have HTL := Aside0.mk hTL
  have HDT := Aside0.mk (And.intro hD hT)
  have HDL := Aside0.mk hDL
  have HPL := Aside0.mk hPL
  have H12 : Aside0 (Calls Tryz.prog 12 #[.slice (some ⟨W2.heap.size, 0, none⟩) l.length (l.length + 2)] W3 fun e W' => Below W3.heap.size W3 W' ∧ ∃ f, e = .returned f ∧ DgAt W3.heap.size (vulE l) f W') := ⟨dangers0_calls W3 _ l (H3.out.1.ed (l.length + 2)) hn (fun e he => (HS.out e he).1)⟩
  have H13 : Aside0 (∀ W', Below W3.heap.size W3 W' → Calls Tryz.prog 13 #[.slice (some ⟨W2.heap.size, 0, none⟩) l.length (l.length + 2)] W' fun e W'' => Below W'.heap.size W' W'' ∧ ∃ A' c', e = .returned (.slice A' (refP D).length c') ∧ Spb W'.heap.size W'' A' (refP D).length (refP D).length) := ⟨fun W' hb => by
    refine (pivots_calls W' _ l ((H3.out.1.ed (l.length + 2)).below hb) hn HS.out).mono ?_
    rintro e W'' ⟨v', names, rfl, how, h1, h2, hb2⟩
    rw [← HDT.out.1] at h2
    obtain rfl := names_eq h1 h2
    obtain ⟨A', c', rfl⟩ := owns_form how
    exact ⟨hb2, A', c', rfl, spb_owns how⟩⟩
  have H7 : Aside0 (∀ W', Below W3.heap.size W3 W' → Calls Tryz.prog 7 #[.slice (some ⟨W2.heap.size, 0, none⟩) l.length (l.length + 2)] W' fun e W'' => Below W'.heap.size W' W'' ∧ ∃ A' c', e = .returned (.slice A' T.length c') ∧ Spb W'.heap.size W'' A' T.length (T.length * 2)) := ⟨fun W' hb => by
    refine (tracked_calls2 W' _ l ((H3.out.1.ed (l.length + 2)).below hb) hn HS.out).mono ?_
    rintro e W'' ⟨v', T', rfl, hr, hpw, hm, hb2⟩
    obtain ⟨A', c', rfl⟩ := hr.1.form
    obtain rfl : T' = T := (refT_sites _ hpw hm).trans HDT.out.2.symm
    exact ⟨hb2, A', c', rfl, spb_si hr⟩⟩
  have H10 : Aside0 (∀ W', Below W3.heap.size W3 W' → Calls Tryz.prog 10 #[.slice (some ⟨W2.heap.size, 0, none⟩) l.length (l.length + 2), .string proc] W' fun e W'' => Below W'.heap.size W' W'' ∧ ∃ n A' c', e = .returned (.slice A' n c') ∧ n ≤ 1048576 ∧ Spb W'.heap.size W'' A' n n) := ⟨fun W' hb => by
    refine (reach_calls W' _ l proc ((H3.out.1.ed (l.length + 2)).below hb) hn HS.out).mono ?_
    rintro e W'' ⟨v', names, rfl, how, hpw, hm, hb2⟩
    obtain ⟨A', c', rfl⟩ := owns_form how
    have := ks_le (sorted_nodup hpw) fun s hs => (hm s).1 hs
    exact ⟨hb2, _, A', c', rfl, by omega, spb_owns how⟩⟩
  clear hD hT hDL
  generalize refP D = PD at *
  go_wp2_with (first
    | (go_at_call 12; refine H12.out.mono ?_; rintro e W4 ⟨hb4, f, rfl, hd4⟩; have hdf := hd4.form; obtain ⟨b1, b3, rfl⟩ := hdf; have HB4 := Aside0.mk (And.intro hb4 hd4); clear hb4 hd4)
    | (go_at_call 13; refine (H13.out _ HB4.out.1).mono ?_; rintro e W5 ⟨hb5, A7, c7, rfl, hs5⟩; have HB5 := Aside0.mk (And.intro (below_to HB4.out.1 hb5) (And.intro hb5 hs5)); clear hb5 hs5)
    | (go_at_call 7; refine (H7.out _ HB5.out.1).mono ?_; rintro e W6 ⟨hb6, A8, c8, rfl, hs6⟩; have HB6 := Aside0.mk (And.intro (below_to HB5.out.1 hb6) (And.intro (below_to HB5.out.2.1 hb6) (And.intro (HB5.out.2.2.below hb6) (hs6.mono HB5.out.2.1.size)))); clear hb6 hs6)
    | (go_at_call 10; refine (H10.out _ HB6.out.1).mono ?_; rintro e W7 ⟨hb7, rn, A9, c9, rfl, hrn, hs7⟩; have HB7 := Aside0.mk (And.intro (below_to HB6.out.1 hb7) (And.intro (below_to HB6.out.2.1 hb7) (And.intro (HB6.out.2.2.1.below hb7) (And.intro (HB6.out.2.2.2.below hb7) (hs7.mono HB6.out.2.1.size))))); clear hb7 hs7))
  have hc7 : W7.cell? ⟨W.heap.size, 0, none⟩ = some (.slice A l.length c) := by
    have h1 : W7.heap[W.heap.size]? = W2.heap[W.heap.size]? := (HB7.out.1.block _ (by have := H3.out.2.2; have := HB2.out.2.2; omega)).trans (H3.out.2.1.block _ HB2.out.2.2)
    exact (World.cell?_of_block h1).trans HB2.out.2.1
  have HR7 := Aside0.mk (H3.out.1.below HB7.out.1)
  have HE7 : Aside0 (∀ W', Below W7.heap.size W7 W' → EdR m0 W' (.slice A l.length c) l ∧ EdR W2.heap.size W' (.slice (some ⟨W2.heap.size, 0, none⟩) l.length (l.length + 2)) l) := ⟨fun W' hb => by
    have hb2 : Below W.heap.size W W7 := HB2.out.1.trans ((H3.out.2.1.mono (Nat.le_of_lt HB2.out.2.2)).trans (HB7.out.1.mono (by have := H3.out.2.2; have := HB2.out.2.2; omega)))
    exact ⟨(HE.out.below hb2).below hb, (HR7.out.below hb).ed _⟩⟩
  have HSM : Aside0 (∀ W', Below W7.heap.size W7 W' → Calls Tryz.prog 14 #[.slice (some ⟨W2.heap.size, 0, none⟩) l.length (l.length + 2), .slice A l.length c] W' fun e W'' => Below W7.heap.size W7 W'' ∧ e = .returned (.bool true)) := ⟨fun W' hb => (same_calls W' _ _ l (HE7.out W' hb).2 (HE7.out W' hb).1 (by omega)).mono fun e W'' ⟨he, hg⟩ => ⟨below_to hb hg.below, he⟩⟩
  have HSK : Aside0 (∀ W', Below W7.heap.size W7 W' → (W'.cell? ⟨W.heap.size, 0, none⟩ = some (.slice A l.length c) ∧ W'.cell? ⟨W2.heap.size, l.length * 6, none⟩ = some (.string ⟨#[]⟩) ∧ W'.cell? ⟨W2.heap.size, l.length * 6 + 1, none⟩ = some (.int .i64 0) ∧ W'.cell? ⟨W2.heap.size, l.length * 6 + 2, none⟩ = some (.string ⟨#[]⟩) ∧ W'.cell? ⟨W2.heap.size, l.length * 6 + 3, none⟩ = some (.int .i64 0) ∧ W'.cell? ⟨W2.heap.size, l.length * 6 + 4, none⟩ = some (.int .i64 0) ∧ W'.cell? ⟨W2.heap.size, l.length * 6 + 5, none⟩ = some (.bool false) ∧ Below W7.heap.size W7 W')) := ⟨fun W' hb => ⟨cell_below hb hc7, (HR7.out.below hb).spare 0 _ rfl, (HR7.out.below hb).spare 1 _ rfl, (HR7.out.below hb).spare 2 _ rfl, (HR7.out.below hb).spare 3 _ rfl, (HR7.out.below hb).spare 4 _ rfl, (HR7.out.below hb).spare 5 _ rfl, hb⟩⟩
  have hne : ∀ w, Sem.run Tryz.prog (binOp .neq 39 (.agg #[.string ⟨#[]⟩, .int .i64 0, .string ⟨#[]⟩, .int .i64 0, .int .i64 0, .bool false]) (.agg #[.string ⟨#[]⟩, .int .i64 0, .string ⟨#[]⟩, .int .i64 0, .int .i64 0, .bool false])) w = .ok (.bool false) w := fun w => by
    have := neE zrE zrE w
    simpa [encE, zrE] using this
  have hgu : ∀ (op : BinOp) (a b : Operand) w, Sem.run Tryz.prog (eqGuard op 39 a b (.agg #[.string ⟨#[]⟩, .int .i64 0, .string ⟨#[]⟩, .int .i64 0, .int .i64 0, .bool false]) (.agg #[.string ⟨#[]⟩, .int .i64 0, .string ⟨#[]⟩, .int .i64 0, .int .i64 0, .bool false])) w = .ok () w := fun op a b w => guardE op a b zrE zrE w
  have q0 : ((0 : Int) ≤ (l.length : Int) + 2) = True := eq_true (by omega)
  have q1 : ((0 : Int) ≤ (l.length : Int)) = True := eq_true (by omega)
  have q2 : ((l.length : Int) < (l.length : Int) + 2) = True := eq_true (by omega)
  have q3 : ((l.length : Int) + 2).toNat = l.length + 2 := by omega
  have hu39 := Tryz.underlying39
  clear hc7
  refine wp_partT #[Value.slice A l.length c, Value.string proc, Value.pointer (some ⟨W.heap.size, 0, none⟩), undef, Value.bool false, Value.slice (some ⟨W2.heap.size, 0, none⟩) l.length (l.length + 2), Value.func (Fn.func 30) #[] #[Value.pointer (some ⟨b1, 0, none⟩), Value.pointer (some ⟨b3, 0, none⟩)], Value.slice A7 PD.length c7, Value.slice A8 T.length c8, Value.slice A9 rn c9, undef, undef, undef, undef, undef, undef, Value.bool true, Value.bool false, Value.slice A l.length c, Value.int .i64 l.length, Value.int .i64 ((l.length : Int) + 2), Value.slice (some ⟨W2.heap.size, 0, none⟩) 0 (l.length + 2), Value.slice A l.length c, Value.slice (some ⟨W2.heap.size, 0, none⟩) l.length (l.length + 2), Value.slice (some ⟨W2.heap.size, 0, none⟩) l.length (l.length + 2), Value.func (Fn.func 30) #[] #[Value.pointer (some ⟨b1, 0, none⟩), Value.pointer (some ⟨b3, 0, none⟩)], Value.slice (some ⟨W2.heap.size, 0, none⟩) l.length (l.length + 2), Value.slice A7 PD.length c7, Value.slice (some ⟨W2.heap.size, 0, none⟩) l.length (l.length + 2), Value.slice A8 T.length c8, Value.slice (some ⟨W2.heap.size, 0, none⟩) l.length (l.length + 2), Value.string proc, Value.slice A9 rn c9, Value.slice (some ⟨W2.heap.size, 0, none⟩) l.length (l.length + 2), Value.slice A l.length c, Value.bool true, Value.bool false, Value.bool false, Value.slice (some ⟨W2.heap.size, 0, none⟩) l.length (l.length + 2), Value.slice (some ⟨W2.heap.size, 0, none⟩) l.length (l.length + 2), Value.int .i64 ((l.length : Int) + 2), Value.slice (some ⟨W2.heap.size, 0, none⟩) (l.length + 2) (l.length + 2), Value.slice A l.length c, Value.int .i64 l.length, Value.pointer (some ⟨W2.heap.size, l.length * 6, none⟩), Value.agg #[.string ⟨#[]⟩, .int .i64 0, .string ⟨#[]⟩, .int .i64 0, .int .i64 0, .bool false], Value.agg #[.string ⟨#[]⟩, .int .i64 0, .string ⟨#[]⟩, .int .i64 0, .int .i64 0, .bool false], Value.bool false, Value.bool false, undef, undef, undef, undef, undef, undef, undef, undef, undef, undef, undef, undef, undef, undef, undef, undef, undef, undef, undef, undef, undef, undef, undef, undef, undef, undef, undef, undef, undef, undef, undef, undef, undef, undef, undef, undef, undef, undef, undef, undef, undef, undef, undef, undef, undef, undef, undef, undef, undef, undef, undef, undef, undef, undef, undef, undef, undef, undef, undef, undef, undef, undef, undef, undef, undef, undef, undef, undef, undef, undef, undef, undef, undef, undef, undef, undef, undef, undef, undef] [] (fun wx => Aside0 (Below W7.heap.size W7 wx)) ?r6 ?rest6
  case r6 =>
    go_region_held3 (fun W' => W'.cell? ⟨W.heap.size, 0, none⟩ = some (.slice A l.length c) ∧ W'.cell? ⟨W2.heap.size, l.length * 6, none⟩ = some (.string ⟨#[]⟩) ∧ W'.cell? ⟨W2.heap.size, l.length * 6 + 1, none⟩ = some (.int .i64 0) ∧ W'.cell? ⟨W2.heap.size, l.length * 6 + 2, none⟩ = some (.string ⟨#[]⟩) ∧ W'.cell? ⟨W2.heap.size, l.length * 6 + 3, none⟩ = some (.int .i64 0) ∧ W'.cell? ⟨W2.heap.size, l.length * 6 + 4, none⟩ = some (.int .i64 0) ∧ W'.cell? ⟨W2.heap.size, l.length * 6 + 5, none⟩ = some (.bool false) ∧ Below W7.heap.size W7 W') (exact HSK.out _ (by first | assumption | exact Below.refl _ _ | exact (Gr.refl _).drew.below | exact below_to (by assumption) (Gr.refl _).drew.below)) (first | (go_at_call 14; refine (HSM.out _ (by first | assumption | exact (Gr.refl _).drew.below)).mono ?_; rintro e W8 ⟨hb8, rfl⟩))
    rename_i hlast
    exact ⟨rfl, ⟨hlast.2.2.2.2.2.2.2⟩⟩
  case rest6 =>
  intro W8 H8
  clear hne hgu q0 q1 q2 q3 HSK HSM
  have HX : Aside0 (Frm W8 W2.heap.size ((l.length + 2) * 6) ∧ Spb W4.heap.size W8 A7 PD.length PD.length ∧ Spb W4.heap.size W8 A8 T.length (T.length * 2) ∧ Spb W4.heap.size W8 A9 rn rn) := ⟨(HR7.out.below H8.out).2, HB7.out.2.2.1.below H8.out, HB7.out.2.2.2.1.below H8.out, HB7.out.2.2.2.2.below H8.out⟩
  have hx3 : Aside0 (W2.heap.size < W3.heap.size ∧ W3.heap.size ≤ W4.heap.size) := ⟨H3.out.2.2, HB4.out.1.size⟩
  go_wp2_with fail
  go_loopw [51] (fun v wr => ∃ i : Nat, v = .int .i64 (i : Nat) ∧ i ≤ l.length ∧ Aside0 (Sp W2.heap.size W3.heap.size W4.heap.size W8 wr)) (fun v wr => l.length - (RowKit.intOf v).toNat)
  case atStart => exact ⟨0, rfl, Nat.zero_le _, ⟨Sp.refl _ _ _ _⟩⟩
  case round =>
    obtain ⟨i, rfl, hi, HI⟩ := hrel
    by_cases hlt : i < l.length
    · have d1 : decide (((i : Nat) : Int) < ((l.length : Nat) : Int)) = true := decide_eq_true (by omega)
      have p0 : ((0 : Int) ≤ ((i : Nat) : Int)) = True := eq_true (by omega)
      have p1 : (((i : Nat) : Int) < ((l.length : Nat) : Int)) = True := eq_true (by omega)
      have HI2 : Aside0 (Sp W2.heap.size W3.heap.size W4.heap.size W8 (wr.setCells W2.heap.size (i * 6) [.string ⟨#[]⟩, .int .i64 0, .string ⟨#[]⟩, .int .i64 0, .int .i64 0, .bool true])) := ⟨Sp.sets (Nat.le_refl _) (.inl hx3.out.1) _ _ _ _ HI.out⟩
      obtain ⟨g0, f0⟩ := HI.out.frm _ _ HX.out.1 (i * 6) (by omega)
      obtain ⟨u900, g0⟩ := Option.isSome_iff_exists.1 g0
      obtain ⟨g1, f1⟩ := HI.out.frm _ _ HX.out.1 (i * 6 + 1) (by omega)
      obtain ⟨u901, g1⟩ := Option.isSome_iff_exists.1 g1
      obtain ⟨g2, f2⟩ := HI.out.frm _ _ HX.out.1 (i * 6 + 2) (by omega)
      obtain ⟨u902, g2⟩ := Option.isSome_iff_exists.1 g2
      obtain ⟨g3, f3⟩ := HI.out.frm _ _ HX.out.1 (i * 6 + 3) (by omega)
      obtain ⟨u903, g3⟩ := Option.isSome_iff_exists.1 g3
      obtain ⟨g4, f4⟩ := HI.out.frm _ _ HX.out.1 (i * 6 + 4) (by omega)
      obtain ⟨u904, g4⟩ := Option.isSome_iff_exists.1 g4
      obtain ⟨g5, f5⟩ := HI.out.frm _ _ HX.out.1 (i * 6 + 5) (by omega)
      obtain ⟨u905, g5⟩ := Option.isSome_iff_exists.1 g5
      go_wp2_with fail
      go_roundw
      case measure => show l.length - (i + 1) < l.length - i; omega
      case rel => exact ⟨i + 1, by first | rfl | (simp; done), by omega, HI2⟩
    · have d1 : decide (((i : Nat) : Int) < ((l.length : Nat) : Int)) = false := decide_eq_false (by omega)
      go_wp2_with fail
      generalize wr = Wa at *
      have hPLn := HPL.out
      have hTLn := HTL.out
      go_loopw [61] (fun v wr => ∃ i : Nat, v = .int .i64 (i : Nat) ∧ i ≤ PD.length ∧ Aside0 (Sp W2.heap.size W3.heap.size W4.heap.size W8 wr)) (fun v wr => PD.length - (RowKit.intOf v).toNat)
      case atStart => exact ⟨0, rfl, Nat.zero_le _, HI⟩
      case round =>
        clear d1
        obtain ⟨i, rfl, hi, HI⟩ := hrel
        by_cases hlt : i < PD.length
        · have d1 : decide (((i : Nat) : Int) < ((PD.length : Nat) : Int)) = true := decide_eq_true (by omega)
          have p0 : ((0 : Int) ≤ ((i : Nat) : Int)) = True := eq_true (by omega)
          have p1 : (((i : Nat) : Int) < ((PD.length : Nat) : Int)) = True := eq_true (by omega)
          obtain ⟨g, rfl, hg, hf⟩ := HX.out.2.1 (by omega)
          obtain ⟨hf1, hf2⟩ := HI.out.frm _ _ hf (i) (by omega)
          obtain ⟨u, hf1⟩ := Option.isSome_iff_exists.1 hf1
          have HI2 : Aside0 (Sp W2.heap.size W3.heap.size W4.heap.size W8 (wr.setCell ⟨g, i, none⟩ (.string ⟨#[115, 112, 111, 105, 108, 116]⟩))) := ⟨HI.out.set (by have := hx3.out; omega) (.inr hg) _ _⟩
          clear hf
          go_wp2_with fail
          go_roundw
          case measure => show PD.length - (i + 1) < PD.length - i; omega
          case rel => exact ⟨i + 1, by first | rfl | (simp; done), by omega, HI2⟩
        · have d1 : decide (((i : Nat) : Int) < ((PD.length : Nat) : Int)) = false := decide_eq_false (by omega)
          go_wp2_with fail
          generalize wr = Wb at *
          go_loopw [70] (fun v wr => ∃ i : Nat, v = .int .i64 (i : Nat) ∧ i ≤ T.length ∧ Aside0 (Sp W2.heap.size W3.heap.size W4.heap.size W8 wr)) (fun v wr => T.length - (RowKit.intOf v).toNat)
          case atStart => exact ⟨0, rfl, Nat.zero_le _, HI⟩
          case round =>
            clear d1
            obtain ⟨i, rfl, hi, HI⟩ := hrel
            by_cases hlt : i < T.length
            · have d1 : decide (((i : Nat) : Int) < ((T.length : Nat) : Int)) = true := decide_eq_true (by omega)
              have p0 : ((0 : Int) ≤ ((i : Nat) : Int)) = True := eq_true (by omega)
              have p1 : (((i : Nat) : Int) < ((T.length : Nat) : Int)) = True := eq_true (by omega)
              obtain ⟨g, rfl, hg, hf⟩ := HX.out.2.2.1 (by omega)
              obtain ⟨hf1, hf2⟩ := HI.out.frm _ _ hf (i * 2 + 1) (by omega)
              obtain ⟨u, hf1⟩ := Option.isSome_iff_exists.1 hf1
              have HI2 : Aside0 (Sp W2.heap.size W3.heap.size W4.heap.size W8 (wr.setCell ⟨g, i * 2 + 1, none⟩ (.int .i64 (-7)))) := ⟨HI.out.set (by have := hx3.out; omega) (.inr hg) _ _⟩
              clear hf
              go_wp2_with fail
              go_roundw
              case measure => show T.length - (i + 1) < T.length - i; omega
              case rel => exact ⟨i + 1, by first | rfl | (simp; done), by omega, HI2⟩
            · have d1 : decide (((i : Nat) : Int) < ((T.length : Nat) : Int)) = false := decide_eq_false (by omega)
              go_wp2_with fail
              generalize wr = Wc at *
              go_loopw [80] (fun v wr => ∃ i : Nat, v = .int .i64 (i : Nat) ∧ i ≤ rn ∧ Aside0 (Sp W2.heap.size W3.heap.size W4.heap.size W8 wr)) (fun v wr => rn - (RowKit.intOf v).toNat)
              case atStart => exact ⟨0, rfl, Nat.zero_le _, HI⟩
              case round =>
                clear d1
                obtain ⟨i, rfl, hi, HI⟩ := hrel
                by_cases hlt : i < rn
                · have d1 : decide (((i : Nat) : Int) < ((rn : Nat) : Int)) = true := decide_eq_true (by omega)
                  have p0 : ((0 : Int) ≤ ((i : Nat) : Int)) = True := eq_true (by omega)
                  have p1 : (((i : Nat) : Int) < ((rn : Nat) : Int)) = True := eq_true (by omega)
                  obtain ⟨g, rfl, hg, hf⟩ := HX.out.2.2.2 (by omega)
                  obtain ⟨hf1, hf2⟩ := HI.out.frm _ _ hf (i) (by omega)
                  obtain ⟨u, hf1⟩ := Option.isSome_iff_exists.1 hf1
                  have HI2 : Aside0 (Sp W2.heap.size W3.heap.size W4.heap.size W8 (wr.setCell ⟨g, i, none⟩ (.string ⟨#[115, 112, 111, 105, 108, 116]⟩))) := ⟨HI.out.set (by have := hx3.out; omega) (.inr hg) _ _⟩
                  clear hf
                  go_wp2_with fail
                  go_roundw
                  case measure => show rn - (i + 1) < rn - i; omega
                  case rel => exact ⟨i + 1, by first | rfl | (simp; done), by omega, HI2⟩
                · have d1 : decide (((i : Nat) : Int) < ((rn : Nat) : Int)) = false := decide_eq_false (by omega)
                  go_wp2_with fail
                  generalize wr = Wd at *
                  clear d1
                  have hsz4 := hx3.out.2
                  have hN4 : W4.heap.size ≤ Wd.heap.size := by
                    have h1 := HB7.out.2.1.size
                    have h2 := H8.out.size
                    have h3 := HI.out.below.size
                    omega
                  have hBU : Below W2.heap.size W2 Wd := H3.out.2.1.trans ((HB7.out.1.mono (Nat.le_of_lt H3.out.2.2)).trans ((H8.out.mono (by have := H3.out.2.2; have := HB7.out.1.size; omega)).trans HI.out.below))
                  have hd0 : DgAt W3.heap.size (vulE l) (Value.func (Fn.func 30) #[] #[Value.pointer (some ⟨b1, 0, none⟩), Value.pointer (some ⟨b3, 0, none⟩)]) (cutW (Wd.alloc (.cells #[.slice none 0 0] 40)) W4.heap.size) := HB4.out.2.move fun k h1 h2 => by
                    rw [cutW_get _ _ _ (by rw [World.size_alloc]; omega) h2, Below.heap_alloc _ _ _ (by omega), HI.out.mid k h1 h2, H8.out.block k (by have := HB7.out.2.1.size; omega), HB7.out.2.1.block k h2]
                  have huz : (Wd.alloc (.cells #[.slice none 0 0] 40)).heap.size = Wd.heap.size + 1 := World.size_alloc _ _
                  have hu5 := heap_alloc_new Wd (.cells #[.slice none 0 0] 40)
                  have hBW := below_mk hBU (.cells #[.slice none 0 0] 40)
                  have hcw : (Wd.alloc (.cells #[.slice none 0 0] 40)).cell? ⟨W.heap.size, 0, none⟩ = some (.slice A l.length c) := cell_below hBW HB2.out.2.1
                  have hB5 : W2.heap.size ≤ Wd.heap.size := hBU.size
                  clear hBU
                  generalize Wd.alloc (.cells #[.slice none 0 0] 40) = U at *
                  generalize Wd.heap.size = B5 at *
                  have hcut : W4.heap.size ≤ U.heap.size := by omega
                  have hseq := dg_stops hd0 (vulE_ok HS.out) (Nat.le_trans (vulE_len l) hn) 4
                  rw [cutW_size _ _ hcut] at hseq
                  have hgU := grownBy_refl U (some B5)
                  have HU := Aside0.mk (And.intro hu5 (And.intro hcw (And.intro hBW huz)))
                  have HC := Aside0.mk (And.intro hcut (And.intro hN4 hB5))
                  have hbw : W.heap.size < B5 := by have := HB2.out.2.2; omega
                  obtain ⟨kk, hkk⟩ : ∃ kk, kk = l.length * l.length := ⟨_, rfl⟩
                  have hk2 : kk ≤ 1099511627776 := by rw [hkk]; exact Nat.mul_le_mul hn hn
                  have hmul : ((l.length : Nat) : Int) * ((l.length : Nat) : Int) = ((kk : Nat) : Int) := by rw [hkk]; exact (Int.natCast_mul _ _).symm
                  have hw1 : wrap64 ((kk : Nat) : Int) = ((kk : Nat) : Int) := w64 kk (by omega)
                  have HDQ : Aside0 ((dangersE (vulE l)).length ≤ kk) := ⟨by rw [hkk]; exact dang_sq l⟩
                  have HW1 := Aside0.mk hw1
                  have HMU := Aside0.mk (And.intro hmul hk2)
                  have HBW := Aside0.mk hbw
                  clear hkk hw1 hmul hd0 hu5 hBW huz hcw
                  rename_i Kz hKz
                  refine (wpIn_wide (n := 5)).1 ?_
                  refine range_P (by omega) rfl hseq (by rw [cutW_size _ _ hcut]; exact cutW_below _ _ hcut) hcut rfl (OwI U B5) (OwI_own U B5) ?h0 (fun T x Bd => (T.setIfInBounds 88 (.agg (encD x.1).toArray)).setIfInBounds 15 (.pointer (some ⟨Bd, 0, none⟩))) ?assign ?body ?done
                  case h0 => exact ⟨⟨_, HU.out.1, World.ownsRow_nil _ _ _ _, trivial⟩, hgU⟩
                  case assign =>
                    clear hseq hgU hcut hN4 hB5 hbw hk2
                    intro lp pre x Wy K hI hK
                    have hst : Sem.run Tryz.prog (storeCells ⟨Wy.heap.size, 0, none⟩ (encD x.1) 0) (Wy.alloc (.cells #[.string ⟨#[]⟩, .int .i64 0, .string ⟨#[]⟩, .int .i64 0, .int .i64 0, .bool false, .string ⟨#[]⟩, .int .i64 0, .string ⟨#[]⟩, .int .i64 0, .int .i64 0, .bool false] 42)) = .ok () (Wy.alloc (.cells (encD x.1).toArray 42)) := storeNewD Wy x.1
                    have hl12 : (encD x.1).length = 12 := rfl
                    have HIy := Aside0.mk hI
                    have HK := Aside0.mk hK
                    clear hI hK
                    gi_wp2_with fail
                    exact HK.out _ _ ((KeepsOthers.alloc _ _).from _) (KpE.below (below_mk (Below.refl _ Wy) _) (Nat.le_trans HC.out.1 HIy.out.2.size)) (OwI_own _ _ pre Wy _ none HIy.out (World.grownBy_alloc Wy _ none) (fun r e => by cases e)) HIy.out.2.size (heap_alloc_new Wy _)
                  case body =>
                    clear hseq hgU
                    rintro lp pre ⟨⟨⟨p, n, q, m0', k, v⟩, ⟨p', n', q', m', k', v'⟩⟩, hx⟩ Bd Wy hl ⟨r, hr⟩ ⟨⟨vo, hbx, how, -⟩, hg⟩ hd1 hd2 hlen
                    simp only [List.setIfInBounds_toArray, List.set_cons_succ, List.set_cons_zero]
                    obtain ⟨Ao, co, rfl⟩ := owns_form how
                    have hd3 : Wy.heap[Bd]? = some (.cells #[.string p, .int .i64 n, .string q, .int .i64 m0', .int .i64 k, .bool v, .string p', .int .i64 n', .string q', .int .i64 m', .int .i64 k', .bool v'] 42 (0, 0)) := hd2
                    have c5 := hbx.cell
                    have f5 := hbx.frozen
                    obtain ⟨i0, hi0, hz0, hz1, hz2⟩ := info_parts info33s
                    have t40 := Tryz.underlying40
                    have hdq := HDQ.out
                    have hq4 : Aside0 (pre.length + 1 ≤ maxLen) := ⟨by unfold maxLen; omega⟩
                    have hq5 : Aside0 ((pre.length + 1) * 128 ≤ 140737488355328) := ⟨by omega⟩
                    have hgt : decide (((kk : Nat) : Int) < ((pre.length : Nat) : Int) + 1) = false := decide_eq_false (by omega)
                    have hgq : (((kk : Nat) : Int) < ((pre.length : Nat) : Int) + 1) = False := eq_false (by omega)
                    have hgr : (((pre.length : Nat) : Int) + 1 ≤ ((kk : Nat) : Int)) = True := eq_true (by omega)
                    have hgs := hg.size
                    have hsz : Aside0 (U.heap.size ≤ (Wy.alloc (.cells #[.string p, .int .i64 n, .string q, .int .i64 m0', .int .i64 k, .bool v, .string p', .int .i64 n', .string q', .int .i64 m', .int .i64 k', .bool v'] 42)).heap.size) := ⟨by rw [World.size_alloc]; omega⟩
                    have hnews : Aside0 (∀ j u, (encD (⟨p, n, q, m0', k, v⟩, ⟨p', n', q', m', k', v'⟩))[j]? = some u → (Wy.alloc (.cells #[.string p, .int .i64 n, .string q, .int .i64 m0', .int .i64 k, .bool v, .string p', .int .i64 n', .string q', .int .i64 m', .int .i64 k', .bool v'] 42)).cell? ((⟨Wy.heap.size, 0, none⟩ : Addr).add j) = some u) := ⟨fun j u hj => by
                      rw [Addr.add_lit, Nat.zero_add, blk_cell (heap_alloc_new Wy _)]
                      simpa [encD, encE] using hj⟩
                    have hWU : W.heap.size < U.heap.size := by have := HU.out.2.2.2; omega
                    have hck : Aside0 (∀ w1, (Wy.alloc (.cells #[.string p, .int .i64 n, .string q, .int .i64 m0', .int .i64 k, .bool v, .string p', .int .i64 n', .string q', .int .i64 m', .int .i64 k', .bool v'] 42)).grownBy w1 (Value.slice Ao pre.length co).ownBlock → w1.cell? ⟨W.heap.size, 0, none⟩ = some (.slice A l.length c)) := ⟨fun w1 hg' => by
                      have e1 : w1.heap[W.heap.size]? = U.heap[W.heap.size]? := (hg'.block W.heap.size (by rw [World.size_alloc]; omega) (fun e => by have := ((how.alloc (.cells #[.string p, .int .i64 n, .string q, .int .i64 m0', .int .i64 k, .bool v, .string p', .int .i64 n', .string q', .int .i64 m', .int .i64 k', .bool v'] 42)).lt _ e.symm).1; omega)).trans ((Below.heap_alloc _ _ _ (by omega)).trans (hg.block W.heap.size hWU (by simp; omega)))
                      exact (World.cell?_of_block e1).trans HU.out.2.1⟩
                    have x0 := (blk_cell hd3 0).trans rfl
                    have x1 := (blk_cell hd3 1).trans rfl
                    have x2 := (blk_cell hd3 2).trans rfl
                    have x3 := (blk_cell hd3 3).trans rfl
                    have x4 := (blk_cell hd3 4).trans rfl
                    have x5 := (blk_cell hd3 5).trans rfl
                    have x6 := (blk_cell hd3 6).trans rfl
                    have x7 := (blk_cell hd3 7).trans rfl
                    have x8 := (blk_cell hd3 8).trans rfl
                    have x9 := (blk_cell hd3 9).trans rfl
                    have xa := (blk_cell hd3 10).trans rfl
                    have xb := (blk_cell hd3 11).trans rfl
                    have hmul := HMU.out.1
                    have hw1 := HW1.out
                    have hnq : (W.heap.size = B5) = False := eq_false (by omega)
                    have HH := Aside0.mk (And.intro hbx (And.intro how hg))
                    clear hd2 hd3 hlen hdq hbx how hg hr hd1 hgs hWU hbw hB5 hN4 hcut hsz4 hk2
                    gi_wp2_with (gi_at_builtin; refine wpListIn_append_own _ rfl _ _ 40 rfl U.heap.size 42 i0 (.agg (encD zrD).toArray) 12 128 t40 hi0 hz0 hz1 hz2 rfl (by omega) _ _ _ rfl (HH.out.2.1.alloc _) ⟨Wy.heap.size, 0, none⟩ 1 1 (encD (⟨p, n, q, m0', k, v⟩, ⟨p', n', q', m', k', v'⟩)) rfl rfl hnews.out (encD_one _) hq4.out hq5.out hsz.out ?_; intro vv w1 hown hgrow _; obtain ⟨g', cap', rfl⟩ := ownsRow_succ hown; obtain ⟨hv1, hv2, hr2, hg2, hk2, hp2⟩ := ow_step (n3 := W3.heap.size) (n4 := W4.heap.size) HC.out.2.1 HC.out.1 HH.out.1 (by decide) (by decide) (by decide) HH.out.2.1 HH.out.2.2 hown hgrow; have hc1 := hv1.cell; have hf1 := hv1.frozen; have hcc := hck.out w1 hgrow; have hce : ∀ u, (w1.setCell ⟨B5, 0, none⟩ u).cell? ⟨W.heap.size, 0, none⟩ = some (.slice A l.length c) := fun u => (World.cell?_of_block (Below.heap_setCell _ _ _ _ (show W.heap.size ≠ B5 from Nat.ne_of_lt HBW.out))).trans hcc; have hcd := hv2.cell; have HZ := Aside0.mk (And.intro hv2 (And.intro hr2 (And.intro hg2 (And.intro hk2 hp2)))); clear hv1 hv2 hr2 hg2 hk2 hp2 hown hgrow)
                    obtain ⟨z1, z2, z3, z4, z5⟩ := HZ.out
                    exact ⟨z4.from _, z5, ⟨⟨_, z1, by simpa [val1, flatD] using z2, trivial⟩, z3⟩⟩
                  case done =>
                    clear hseq hgU
                    rintro Bq xs Wy hBq hxs ⟨⟨vo, hbx, how, -⟩, hg⟩ hK
                    obtain ⟨Ao, co, rfl⟩ := owns_form how
                    have c5 := hbx.cell
                    have hxs' : val1 xs = dangersE (vulE l) := hxs
                    have hxl : xs.length = (dangersE (vulE l)).length := by rw [← hxs', val1_len]
                    have hdd : DaR Wy (.slice Ao xs.length co) (dangersE (vulE l)) := by
                      rw [← hxs', ← val1_len xs]
                      exact DaR.of_owns (base := U.heap.size) (by rw [val1_len]; exact how)
                    have hdl : (dangersE (vulE l)).length ≤ 1099511627776 := dangers_len _ (Nat.le_trans (vulE_len l) hn)
                    have hpl : (refP (dangersE (vulE l))).length ≤ 1099511627776 := Nat.le_trans (refP_len _) hdl
                    have hWU : W.heap.size < U.heap.size := by have := HU.out.2.2.2; omega
                    have hcy : Wy.cell? ⟨W.heap.size, 0, none⟩ = some (.slice A l.length c) := (World.cell?_of_block (hg.block W.heap.size hWU (by simp; omega))).trans HU.out.2.1
                    have hbU : Below W2.heap.size W2 Wy := HU.out.2.2.1.trans (grownBy_below hg (by have := HU.out.2.2.2; omega) (fun k e => by injection e with e; omega))
                    have hbW : Below W.heap.size W Wy := HB2.out.1.trans (hbU.mono (Nat.le_of_lt HB2.out.2.2))
                    have hE := HE.out.below hbW
                    have hDq := blk_lt hK
                    have hWq : W.heap.size ≤ Bq := by omega
                    have HBQ := Aside0.mk (And.intro hbW (And.intro hDq (And.intro hK hWq)))
                    have HDa : Aside0 (∀ W', Below Wy.heap.size Wy W' → DaR W' (.slice Ao xs.length co) (dangersE (vulE l))) := ⟨fun W' hb => hdd.below hb⟩
                    have HEy : Aside0 (∀ W', Below Wy.heap.size Wy W' → EdR m0 W' (.slice A l.length c) l) := ⟨fun W' hb => hE.below hb⟩
                    have HSy : Aside0 (∀ W', Below Wy.heap.size Wy W' → W'.cell? ⟨W.heap.size, 0, none⟩ = some (.slice A l.length c) ∧ W'.cell? ⟨B5, 0, none⟩ = some (.slice Ao xs.length co) ∧ Below Wy.heap.size Wy W') := ⟨fun W' hb => ⟨cell_below hb hcy, cell_below hb c5, hb⟩⟩
                    have hT := HDT.out.2
                    obtain ⟨Dn, hDn⟩ : ∃ Dn, Dn = dangersE (vulE l) := ⟨_, rfl⟩
                    obtain ⟨Pn, hPn⟩ : ∃ Pn, Pn = refP Dn := ⟨_, rfl⟩
                    rw [← hDn] at HDa hdl hxl hpl
                    rw [← hPn] at hpl
                    have HDL2 := Aside0.mk hdl
                    have HPL2 := Aside0.mk hpl
                    have K16 : Aside0 (∀ W', Below Wy.heap.size Wy W' → Calls Tryz.prog 16 #[.slice A l.length c] W' fun e W'' => Below Wy.heap.size Wy W'' ∧ ∃ A' c', e = .returned (.slice A' Dn.length c') ∧ DaR W'' (.slice A' Dn.length c') Dn) := ⟨fun W' hb => by
                      have := refD_calls W' _ l (HEy.out _ hb) hn
                      rw [refV_eq, ← hDn] at this
                      refine this.mono ?_
                      rintro e W'' ⟨hb2, v', rfl, how⟩
                      obtain ⟨A', c', rfl⟩ := owns_form how
                      exact ⟨below_to hb hb2, A', c', rfl, DaR.of_owns how⟩⟩
                    have K15 : Aside0 (∀ W' v v', Below Wy.heap.size Wy W' → DaR W' v Dn → DaR W' v' Dn → Calls Tryz.prog 15 #[v, v'] W' fun e W'' => Below Wy.heap.size Wy W'' ∧ e = .returned (.bool true)) := ⟨fun W' v v' hb h1 h2 => (sameDangers_calls W' v v' Dn h1 h2 HDL2.out).mono fun e W'' ⟨he, hg⟩ => ⟨below_to hb hg.below, he⟩⟩
                    have K13 : Aside0 (∀ W', Below Wy.heap.size Wy W' → Calls Tryz.prog 13 #[.slice A l.length c] W' fun e W'' => Below Wy.heap.size Wy W'' ∧ ∃ A' c', e = .returned (.slice A' Pn.length c') ∧ StR W'' (.slice A' Pn.length c') Pn) := ⟨fun W' hb => by
                      refine (pivots_calls W' _ l (HEy.out _ hb) hn HS.out).mono ?_
                      rintro e W'' ⟨v', names, rfl, how, h1, h2, hb2⟩
                      rw [← hDn] at h2
                      obtain rfl : names = Pn := (names_eq h1 h2).trans hPn.symm
                      obtain ⟨A', c', rfl⟩ := owns_form how
                      exact ⟨below_to hb hb2, A', c', rfl, StR.of_owns how⟩⟩
                    have K17 : Aside0 (∀ W', Below Wy.heap.size Wy W' → Calls Tryz.prog 17 #[.slice A l.length c] W' fun e W'' => Below Wy.heap.size Wy W'' ∧ Below W'.heap.size W' W'' ∧ ∃ A' c', e = .returned (.slice A' Pn.length c') ∧ StR W'' (.slice A' Pn.length c') Pn) := ⟨fun W' hb => by
                      have := refP_calls W' _ l (HEy.out _ hb) hn
                      rw [refV_eq, ← hDn, ← hPn] at this
                      refine this.mono ?_
                      rintro e W'' ⟨hb2, v', rfl, how⟩
                      obtain ⟨A', c', rfl⟩ := owns_form how
                      exact ⟨below_to hb hb2, hb2, A', c', rfl, StR.of_owns how⟩⟩
                    have K9 : Aside0 (∀ W' v v' (L : List ByteArray), Below Wy.heap.size Wy W' → StR W' v L → StR W' v' L → L.length ≤ 1099511627776 → Calls Tryz.prog 9 #[v, v'] W' fun e W'' => Below Wy.heap.size Wy W'' ∧ e = .returned (.bool true)) := ⟨fun W' v v' L hb h1 h2 h3 => (sameNames_calls W' v v' L h1 h2 h3).mono fun e W'' ⟨he, hg⟩ => ⟨below_to hb hg.below, he⟩⟩
                    have K7 : Aside0 (∀ W', Below Wy.heap.size Wy W' → Calls Tryz.prog 7 #[.slice A l.length c] W' fun e W'' => Below Wy.heap.size Wy W'' ∧ ∃ A' c', e = .returned (.slice A' T.length c') ∧ SiR W'' (.slice A' T.length c') T) := ⟨fun W' hb => by
                      refine (tracked_calls W' _ l (HEy.out _ hb) hn HS.out).mono ?_
                      rintro e W'' ⟨v', T', rfl, hr, hpw, hm, hb2⟩
                      obtain ⟨A', c', rfl⟩ := hr.form
                      obtain rfl : T' = T := (refT_sites _ hpw hm).trans hT.symm
                      exact ⟨below_to hb hb2, A', c', rfl, hr⟩⟩
                    have K8 : Aside0 (∀ W', Below Wy.heap.size Wy W' → Calls Tryz.prog 8 #[.slice A l.length c] W' fun e W'' => Below Wy.heap.size Wy W'' ∧ Below W'.heap.size W' W'' ∧ ∃ A' c', e = .returned (.slice A' T.length c') ∧ SiR W'' (.slice A' T.length c') T) := ⟨fun W' hb => by
                      refine (refT_calls W' _ l (HEy.out _ hb) hn).mono ?_
                      rw [refV_eq, ← hT]
                      rintro e W'' ⟨hb2, v', rfl, how⟩
                      obtain ⟨A', c', rfl⟩ := owns_form how
                      exact ⟨below_to hb hb2, hb2, A', c', rfl, owns_si how⟩⟩
                    have K6 : Aside0 (∀ W' v v', Below Wy.heap.size Wy W' → SiR W' v T → SiR W' v' T → Calls Tryz.prog 6 #[v, v'] W' fun e W'' => Below Wy.heap.size Wy W'' ∧ e = .returned (.bool true)) := ⟨fun W' v v' hb h1 h2 => (sameSites_calls W' v v' T h1 h2 (by have := HTL.out; omega)).mono fun e W'' ⟨he, hg⟩ => ⟨below_to hb hg.below, he⟩⟩
                    have K10 : Aside0 (∀ W', Below Wy.heap.size Wy W' → Calls Tryz.prog 10 #[.slice A l.length c, .string proc] W' fun e W'' => Below Wy.heap.size Wy W'' ∧ ∃ (names : List ByteArray) (A' : Option Addr) (c' : Nat), e = .returned (.slice A' names.length c') ∧ StR W'' (.slice A' names.length c') names ∧ names.length ≤ 1099511627776 ∧ names.Pairwise (fun x y => blt x y = true) ∧ (∀ s, s ∈ names ↔ Rch l proc s)) := ⟨fun W' hb => by
                      refine (reach_calls W' _ l proc (HEy.out _ hb) hn HS.out).mono ?_
                      rintro e W'' ⟨v', names, rfl, how, hpw, hm, hb2⟩
                      obtain ⟨A', c', rfl⟩ := owns_form how
                      have := ks_le (sorted_nodup hpw) fun s hs => (hm s).1 hs
                      exact ⟨below_to hb hb2, names, A', c', rfl, StR.of_owns how, by omega, hpw, hm⟩⟩
                    have K11 : Aside0 (∀ W' (names : List ByteArray), Below Wy.heap.size Wy W' → names.Pairwise (fun x y => blt x y = true) → (∀ s, s ∈ names ↔ Rch l proc s) → Calls Tryz.prog 11 #[.slice A l.length c, .string proc] W' fun e W'' => Below Wy.heap.size Wy W'' ∧ Below W'.heap.size W' W'' ∧ ∃ (A' : Option Addr) (c' : Nat), e = .returned (.slice A' names.length c') ∧ StR W'' (.slice A' names.length c') names) := ⟨fun W' names hb h1 h2 => by
                      refine (refR_calls W' _ l proc (HEy.out _ hb) hn).mono ?_
                      rintro e W'' ⟨v', names', rfl, how, hpw, hm, hb2⟩
                      obtain ⟨A', c', rfl⟩ := owns_form how
                      obtain rfl : names' = names := sorted_uniq bltSto _ _ hpw h1 fun s => by rw [hm, h2]
                      exact ⟨below_to hb hb2, hb2, A', c', rfl, StR.of_owns how⟩⟩
                    rw [hxl] at c5 HDa HSy
                    clear hxs hxs' hdd hdl hpl hbU hbW hE hDq hWq hT hDn hPn hK hBq hg how hbx hxl hWU hsz4 hN4 hB5 hcut hbw hk2
                    refine hKz _ _ ?_
                    refine wp_seq ?_
                    refine wp_partG (fun a' w' => a'.defers = [{ target := .collected Bq, args := #[] }] ∧ a'.tmps.getD 4 undef = .bool true ∧ Aside0 (Below Wy.heap.size Wy w')) ?r33 ?rest33
                    case r33 =>
                      have hd0 : Below Wy.heap.size Wy Wy.drew := (Gr.refl _).drew.below
                      go_region_held3 (fun W' => W'.cell? ⟨W.heap.size, 0, none⟩ = some (.slice A l.length c) ∧ W'.cell? ⟨B5, 0, none⟩ = some (.slice Ao Dn.length co) ∧ Below Wy.heap.size Wy W') (exact HSy.out _ (by first | assumption | exact Below.refl _ _ | exact (Gr.refl _).drew.below | exact below_to (by assumption) (Gr.refl _).drew.below)) (first
                        | (go_at_call 16; refine (K16.out _ (by first | assumption | exact Below.refl _ _ | exact (Gr.refl _).drew.below)).mono ?_; rintro e V1 ⟨hv1, A21, c21, rfl, hd1⟩; have J1 := Aside0.mk hd1; clear hd1)
                        | (go_at_call 15; refine (K15.out _ _ _ hv1 (HDa.out _ hv1) J1.out).mono ?_; rintro e V2 ⟨hv2, rfl⟩)
                        | (go_at_call 13; refine (K13.out _ hv2).mono ?_; rintro e V3 ⟨hv3, A23, c23, rfl, hd3⟩; have J3 := Aside0.mk hd3; clear hd3)
                        | (go_at_call 17; refine (K17.out _ hv3).mono ?_; rintro e V4 ⟨hv4, hb4, A24, c24, rfl, hd4⟩; have J4 := Aside0.mk (And.intro (J3.out.below hb4) hd4); clear hb4 hd4)
                        | (go_at_call 9; first | (refine (K9.out _ _ _ _ hv10 J10.out.1 J10.out.2 JN.out.1).mono ?_; rintro e V11 ⟨hv11, rfl⟩) | (refine (K9.out _ _ _ _ hv4 J4.out.1 J4.out.2 HPL2.out).mono ?_; rintro e V5 ⟨hv5, rfl⟩))
                        | (go_at_call 7; refine (K7.out _ hv5).mono ?_; rintro e V6 ⟨hv6, A26, c26, rfl, hd6⟩; have J6 := Aside0.mk hd6; clear hd6)
                        | (go_at_call 8; refine (K8.out _ hv6).mono ?_; rintro e V7 ⟨hv7, hb7, A27, c27, rfl, hd7⟩; have J7 := Aside0.mk (And.intro (J6.out.below hb7) hd7); clear hb7 hd7)
                        | (go_at_call 6; refine (K6.out _ _ _ hv7 J7.out.1 J7.out.2).mono ?_; rintro e V8 ⟨hv8, rfl⟩)
                        | (go_at_call 10; refine (K10.out _ hv8).mono ?_; rintro e V9 ⟨hv9, names, A29, c29, rfl, hd9, hnl, hpw, hm⟩; have J9 := Aside0.mk hd9; have JN := Aside0.mk (And.intro hnl (And.intro hpw hm)); clear hd9 hnl hpw hm)
                        | (go_at_call 11; refine (K11.out _ _ hv9 JN.out.2.1 JN.out.2.2).mono ?_; rintro e V10 ⟨hv10, hb10, A30, c30, rfl, hd10⟩; have J10 := Aside0.mk (And.intro (J9.out.below hb10) hd10); clear hb10 hd10))
                      rename_i hlast
                      exact ⟨rfl, rfl, ⟨hlast.2.2⟩⟩
                    case rest33 =>
                      rintro ⟨T', Dl'⟩ V ⟨h1, h2, H3⟩
                      simp only at h1 h2
                      subst h1
                      have hKV : V.heap[Bq]? = some (.deferred (some [])) := (H3.out.block Bq HBQ.out.2.1).trans HBQ.out.2.2.1
                      have HF : Aside0 (Below W.heap.size W (V.putObj Bq (.deferred none))) := ⟨(HBQ.out.1.trans (H3.out.mono HBQ.out.1.size)).trans (belowK_b (w := W) (Nat.le_refl _) V Bq _ _ HBQ.out.2.2.2 hKV rfl rfl)⟩
                      go_wp2_with fail
                      refine ⟨by simp, .inl ⟨_, _, rfl, run_takeDeferred hKV, ?_⟩⟩
                      refine ⟨.bool true, ?_, ⟨rfl, HF.out⟩⟩
                      have h2' : T'[4]?.getD undef = .bool true := by simpa using h2
                      simp [results, Tryz.f4, go_sem, h2']
end Go.Proofs.YtknpkfjaffhejaaGreat



namespace Go.Proofs.YtknpkfjaffhejaaGreat.graphOwn
open Go.ChangeShapes Go.WideShapes Go.ChangeAt Go.RowKit Go.Proofs.YtknpkfjaffhejaaGreatW.PrintWords
open Go.ChangeMaps (open_string shut_string)
open Opn
set_option linter.unusedVariables false

set_option maxRecDepth 100000 in
theorem lifted (os : Os) (started : os.Started) (H : Type) (enc : TypeId × Value → H) (F : Stop.Interp) :
    ReturnsInHanded {} Tryz.checked os 4 .any ((Rows.OpenSpec.upto Rows.graphOwnSpec).pre6 enc Tryz.prog Tryz.f4 Rows.graphOwnUptoRow.domain false) (((Rows.OpenSpec.upto Rows.graphOwnSpec).at F).post enc Tryz.prog Tryz.f4 false true false false) := by
  refine returnsInHanded_of_cond (C := Tryz.checked) (s := Rows.OpenSpec.upto Rows.graphOwnSpec) (k := Rows.uptoSmall) rfl own started (by kernel_rfl) Tryz.func4
    (OpenSpec.witness (enc := enc) (C := Tryz.checked) (s := Rows.OpenSpec.upto Rows.graphOwnSpec) (k := Rows.uptoSmall) rfl false ⟨#[], #[.slice none 0 0, .string ⟨#[]⟩], []⟩ 8 (by kernel_rfl) (by kernel_rfl) (by kernel_rfl)
      (x := ([.nil, .lit (.string [])], [], [])) (by kernel_rfl) rfl (by kernel_rfl)) ?_
  intro W base args ds gs before hval hW _ hk _
  have hW' := hW
  obtain ⟨p, q, hA0, hV, rfl, hfz, hnd⟩ := hW
  have hA : DataW.TrodAll enc Tryz.prog W 0 (fun _ => true) true Tryz.f4.params.toList args.toList ds p := hA0
  rw [Tryz.params4] at hA hval
  obtain ⟨v0, vs0, d0, ds0, p0, q0, hargs, rfl, rfl, h0, r0⟩ := trodAll_cons hA
  obtain ⟨v1, vs1, d1, ds1, p1, q1, rfl, rfl, rfl, h1, r1⟩ := trodAll_cons r0
  obtain ⟨rfl, rfl, rfl⟩ := trodAll_nil r1
  obtain rfl : args = #[v0, v1] := by cases args; simp_all
  obtain ⟨rfl, rfl⟩ := trodVars_none hV
  obtain ⟨a0, len0, cap0, rfl⟩ := okWide_slice Tryz.underlying22 (hval 0 22 v0 rfl rfl)
  have lt0 : ∀ x ∈ p0, x.block < W.heap.size := by obtain ⟨m, hm⟩ := h0; exact DataW.trod_lt m _ _ _ hm
  obtain ⟨l, rfl, hE, hn, hz⟩ := edges_read h0
  obtain ⟨a1, rfl, rfl, rfl, w1⟩ := open_string Tryz.underlying9 (hval 1 9 v1 rfl rfl) h1
  have hb := bulk_bound hk
  have hd0 : Rows.uptoBulk d0 ≤ 1048576 := by
    have : Rows.uptoBulk d0 ≤ _ := bulk_part (l := ([d0] ++ [DataW.lit (.string a1.data.toList)] : List (DataW H))) (by simp)
    simp only [Rows.uptoBulkAll, List.cons_append, List.nil_append, List.append_nil] at this hb
    omega
  have hw : Calls Tryz.prog 4 #[.slice a0 l.length cap0, .string a1] W fun e w' => e = .returned (.bool true) ∧ Below W.heap.size W w' := graphOwn_calls W _ l a1 hE (by omega) hz
  clear hA0
  refine hw.mono fun e W' ⟨he, bel⟩ => ?_
  subst he
  exact ⟨_, rfl, _, _, _, [], _, [], hW', trodAll_mk1 (shut_bool Tryz.underlying4 _), (trodAll_cons_mk (Below.trod laidOut (by kernel_rfl) (of_decide_eq_true (by kernel_rfl)) h0 bel lt0) (trodAll_cons_mk (shut_string Tryz.underlying9 w1) trodAll_mk0)), rfl, bel.frame _, fun h => by cases h⟩

theorem over : Rows.graphOwnUptoRow.holds Tryz.pinned (Rows.OpenSpec.upto Rows.graphOwnSpec) :=
  OpenClaim.holds_of_cond 4 Tryz.f4 rfl rfl rfl rfl rfl rfl rfl ⟨rfl, rfl, rfl, rfl, rfl⟩ rfl rfl rfl rfl rfl (by kernel_rfl) Tryz.func4 (by kernel_rfl)
    (of_decide_eq_true (by kernel_rfl)) (by unfold Func.isWrapper; first | (rw [if_pos (by decide +kernel)]; kernel_rfl) | (rw [if_neg (by decide +kernel)]; exact ⟨rfl, rfl⟩))
    (fun os started H enc _ F => lifted os started H enc F)
end Go.Proofs.YtknpkfjaffhejaaGreat.graphOwn
namespace Go.Proofs.YtknpkfjaffhejaaGreat
theorem graphOwnUpto_holds : Rows.GraphOwnUptoSaid := graphOwn.over
end Go.Proofs.YtknpkfjaffhejaaGreat
