/- WHAT IS PROVED: dangers hands back the dangers, up to a number. -/
import Derived.Test.YtknpkfjaffhejaaSf
import Derived.RangeFuncBox
import Derived.Maps.AppendAt
namespace Go.Proofs.Ytknpkfjaffhejaa
open Go.RowKit Go.Shelf Go.Proofs.YtknpkfjaffhejaaW.PrintWords Go.Proofs.YtknpkfjaffhejaaW.PrintLast Go.Proofs.YtknpkfjaffhejaaW.PrintMore
attribute [local go_sem] Oper.semAt_some
set_option linter.unusedVariables false
set_option linter.unusedSimpArgs false

theorem encD_len (x : Edge × Edge) : (encD x).length = 12 := rfl
theorem encD_one (x : Edge × Edge) : ∀ v ∈ encD x, v.oneCell' = true := fun v hv => by
  rw [encD, List.mem_append] at hv
  rcases hv with hv | hv
  · exact encE_one _ v hv
  · exact encE_one _ v hv
def flatD (l : List (Edge × Edge)) : List Value := l.flatMap encD
theorem flatD_len (l : List (Edge × Edge)) : (flatD l).length = l.length * 12 := by
  induction l with
  | nil => rfl
  | cons x r ih => simp only [flatD, List.flatMap_cons, List.length_append, encD_len, List.length_cons] at *; rw [ih]; omega
theorem flatD_get (l : List (Edge × Edge)) : ∀ j, j < l.length * 12 → (flatD l)[j]? = (encD l[j / 12]!)[j % 12]? := by
  induction l with
  | nil => intro j hj; simp at hj
  | cons x r ih =>
    intro j hj
    rw [flatD, List.flatMap_cons]
    by_cases h : j < 12
    · rw [List.getElem?_append_left (by rw [encD_len]; exact h), Nat.div_eq_of_lt h, Nat.mod_eq_of_lt h]
      rfl
    · rw [List.getElem?_append_right (by rw [encD_len]; omega), encD_len]
      have := ih (j - 12) (by simp at hj; omega)
      rw [flatD] at this
      rw [this]
      have e1 : j / 12 = (j - 12) / 12 + 1 := by omega
      have e2 : j % 12 = (j - 12) % 12 := by omega
      rw [e1, e2]
      simp
def zrD : Edge × Edge := (zrE, zrE)
theorem info33s : (Try.prog.info? 33).map (fun i => (i.zero, i.size, i.bytes)) = some (some (.agg (encD zrD).toArray), 12, 128) := by kernel_rfl

theorem fill_list (w : World) (ty : TypeId) : ∀ (vs zs pre : List Value), zs.length = vs.length → (w.alloc (.cells (pre ++ zs).toArray ty)).setCells w.heap.size pre.length vs = w.alloc (.cells (pre ++ vs).toArray ty)
  | [], [], pre, _ => rfl
  | v :: vs, z :: zs, pre, h => by
    rw [World.setCells, World.setCell_alloc_new]
    have e : ((pre ++ z :: zs).toArray.setIfInBounds pre.length v) = ((pre ++ [v]) ++ zs).toArray := by simp
    have := fill_list w ty vs zs (pre ++ [v]) (by simpa using h)
    rw [List.length_append, List.length_singleton] at this
    rw [e, this]
    simp
  | [], _ :: _, _, h => by simp at h
  | _ :: _, [], _, h => by simp at h
theorem storeNewD (w : World) (u : Edge × Edge) : Sem.run Try.prog (storeCells ⟨w.heap.size, 0, none⟩ (encD u) 0) (w.alloc (.cells (encD zrD).toArray 33)) = .ok () (w.alloc (.cells (encD u).toArray 33)) := by
  have hn := heap_alloc_new w (.cells (encD zrD).toArray 33)
  have := run_storeCells_cells (P := Try.prog) w.heap.size 0 (encD u) 0 (w.alloc (.cells (encD zrD).toArray 33)) (fun c hc => by
    rw [Nat.add_zero, Nat.zero_add, blk_cell hn]
    rw [encD_len] at hc
    match c, hc with
    | 0, _ => rfl
    | 1, _ => rfl
    | 2, _ => rfl
    | 3, _ => rfl
    | 4, _ => rfl
    | 5, _ => rfl
    | 6, _ => rfl
    | 7, _ => rfl
    | 8, _ => rfl
    | 9, _ => rfl
    | 10, _ => rfl
    | 11, _ => rfl) (fun c hc => blk_frozen hn _) (encD_one u)
  rw [this, Nat.zero_add]
  have := fill_list w 33 (encD u) (encD zrD) [] rfl
  simp only [List.nil_append, List.length_nil] at this
  exact congrArg (Result.ok ()) this

/-- A slice of dangers. -/
def DaR (W : World) (v : Value) (l : List (Edge × Edge)) : Prop := ∃ A c, v = .slice A l.length c ∧ (l ≠ [] → ∃ b off, A = some ⟨b, off, none⟩ ∧ ∀ j u, (flatD l)[j]? = some u → W.cell? ⟨b, off + j, none⟩ = some u)
theorem DaR.of_owns {W : World} {base : Nat} {v : Value} {l : List (Edge × Edge)} (h : W.ownsRow base 33 12 v l.length (flatD l)) : DaR W v l := by
  obtain ⟨e1, ⟨rfl, e2⟩ | ⟨gg, cap, cur, rfl, a2, a3, a4, a5, a6, a7⟩⟩ := h
  · rw [List.length_eq_zero_iff] at e2
    subst e2
    exact ⟨none, 0, rfl, fun h => absurd rfl h⟩
  · refine ⟨_, cap, rfl, fun _ => ⟨gg, 0, rfl, fun j u hj => ?_⟩⟩
    rw [Nat.zero_add, blk_cell a3, ← Array.getElem?_toList]
    rw [← a7, List.getElem?_take] at hj
    split at hj
    · exact hj
    · cases hj
theorem DaR.below {W W' : World} {v : Value} {l : List (Edge × Edge)} (h : DaR W v l) (hb : Below W.heap.size W W') : DaR W' v l := by
  obtain ⟨A, c, rfl, hA⟩ := h
  refine ⟨A, c, rfl, fun hl => ?_⟩
  obtain ⟨b, off, rfl, hc⟩ := hA hl
  exact ⟨b, off, rfl, fun j u hj => cell_below hb (hc j u hj)⟩

/-- Up to a number. -/
def cutD {α : Type} (most : Int) (D : List α) : List α := if 0 ≤ most then D.take most.toNat else D

def val1 (pre : List DD) : List (Edge × Edge) := pre.map (·.1)
theorem val1_len (pre : List DD) : (val1 pre).length = pre.length := by simp [val1]

theorem owns_form {W : World} {base : Nat} {e : TypeId} {size : Nat} {v : Value} {n : Nat} {xs : List Value} (h : W.ownsRow base e size v n xs) : ∃ A c, v = .slice A n c := by
  rcases h.2 with ⟨rfl, rfl⟩ | ⟨g, cap, _, rfl, _⟩
  · exact ⟨none, 0, rfl⟩
  · exact ⟨_, _, rfl⟩

/-- What dangers' loop keeps. -/
def DdI (U : World) (B5 : Nat) (most : Int) (pre : List DD) (W' : World) : Prop := (∃ v, Boxed W' B5 24 v ∧ W'.ownsRow U.heap.size 33 12 v pre.length (flatD (val1 pre)) ∧ ∀ m : Nat, (m : Int) = most → pre.length ≤ m) ∧ U.grownBy W' (some B5)
def DdX (U : World) (B5 : Nat) (most : Int) (pre : List DD) (W' : World) : Prop := (∃ v, Boxed W' B5 24 v ∧ W'.ownsRow U.heap.size 33 12 v (pre.length - 1) (flatD (val1 pre.dropLast)) ∧ pre ≠ [] ∧ ((pre.length - 1 : Nat) : Int) = most) ∧ U.grownBy W' (some B5)
theorem ownFrom_grown {β : Type} (U : World) (B5 : Nat) : OwnFrom U.heap.size (fun (_ : β) W' => U.grownBy W' (some B5)) := fun s A B row hs hg hr => grown_step hs hg (fun r e => Or.inl (hr r e).1)
theorem DdI_own (U : World) (B5 : Nat) (most : Int) : OwnFrom U.heap.size (DdI U B5 most) :=
  OwnFrom.and ((holdsRow_own U.heap.size B5 24 33 12 (fun pre : List DD => pre.length) (fun pre => flatD (val1 pre)) (fun pre _ => ∀ m : Nat, (m : Int) = most → pre.length ≤ m)).from _) (ownFrom_grown U B5)
theorem DdX_own (U : World) (B5 : Nat) (most : Int) : OwnFrom U.heap.size (DdX U B5 most) :=
  OwnFrom.and ((holdsRow_own U.heap.size B5 24 33 12 (fun pre : List DD => pre.length - 1) (fun pre => flatD (val1 pre.dropLast)) (fun pre _ => pre ≠ [] ∧ ((pre.length - 1 : Nat) : Int) = most)).from _) (ownFrom_grown U B5)

theorem owns_no31 {W : World} {base : Nat} {e : TypeId} {size : Nat} {v : Value} {n : Nat} {xs : List Value} (h : W.ownsRow base e size v n xs) (he : e ≠ 31) {k : Nat} {cs : Array Value} {fr : Nat × Nat} (hk : W.heap[k]? = some (.cells cs 31 fr)) : some k ≠ v.ownBlock := by
  rcases h.2 with ⟨rfl, _⟩ | ⟨g, cap, cur, rfl, _, hgb, _⟩
  · simp [Value.ownBlock]
  · intro e'
    obtain rfl : k = g := by simpa [Value.ownBlock] using e'
    rw [hgb] at hk
    injection hk with hk
    injection hk with _ hk
    exact he hk
theorem dd_step {U W w1 : World} {n0 B5 : Nat} {t e : TypeId} {size n m : Nat} {v v' : Value} {xs ys : List Value} {tmp : Obj} (hb : B5 < n0) (hbx : Boxed W B5 t v) (hte : t ≠ e) (ht : t ≠ 31) (he : e ≠ 31) (how : W.ownsRow U.heap.size e size v n xs) (hg : U.grownBy W (some B5))
    (hown : w1.ownsRow U.heap.size e size v' m ys) (hgrow : (W.alloc tmp).grownBy w1 v.ownBlock) :
    Boxed w1 B5 t v ∧ Boxed (w1.setCell ⟨B5, 0, none⟩ v') B5 t v' ∧ (w1.setCell ⟨B5, 0, none⟩ v').ownsRow U.heap.size e size v' m ys ∧ U.grownBy (w1.setCell ⟨B5, 0, none⟩ v') (some B5) ∧ KeepsOthers W (w1.setCell ⟨B5, 0, none⟩ v') ∧ KpE n0 U.heap.size W (w1.setCell ⟨B5, 0, none⟩ v') := by
  have hv1 : Boxed w1 B5 t v := (hbx.alloc tmp).kept hgrow (hbx.not_row hte how)
  have hrow := (how.alloc tmp).lt
  refine ⟨hv1, hv1.set v', hown.kept (grownBy_setCell' w1 B5 v') (.inr (hv1.not_row hte hown).symm), ?_, ?_, ?_, ?_⟩
  · exact grown_step (grown_step (grown_step hg (World.grownBy_alloc W tmp none) (fun r e => by cases e)) hgrow (fun r e => Or.inl (hrow r e).1)) (grownBy_setCell' w1 B5 v') (fun r e => Or.inr (by injection e with e; exact e.symm))
  · refine ((KeepsOthers.alloc W tmp).trans (KeepsOthers.of_grownBy hgrow fun j o ej hj => ?_)).trans (KeepsOthers.setCell _ _ _)
    rcases (how.alloc tmp).2 with ⟨rfl, _⟩ | ⟨g, cap, cur, rfl, _, hgb, _⟩
    · simp [Value.ownBlock] at ej
    · obtain rfl : g = j := by simpa [Value.ownBlock] using ej
      rw [hgb] at hj; cases hj; rfl
  · intro k h1 h2
    have hk := hg.size
    refine (Below.heap_setCell _ _ _ _ (by show k ≠ B5; omega)).trans ((hgrow.block k (by rw [World.size_alloc]; omega) (fun e => ?_)).trans (Below.heap_alloc _ _ _ (by omega)))
    have := (hrow k e.symm).1
    omega
  · intro k cs fr hk
    have hlt := blk_lt hk
    have h1 : (W.alloc tmp).heap[k]? = some (.cells cs 31 fr) := (Below.heap_alloc _ _ _ hlt).trans hk
    refine (Below.heap_setCell _ _ _ _ (fun e => ?_)).trans ((hgrow.block k (by rw [World.size_alloc]; omega) (owns_no31 (how.alloc tmp) he h1)).trans (Below.heap_alloc _ _ _ hlt))
    have e : k = B5 := e
    subst e
    rw [show W.heap[k]? = _ from hbx] at hk
    injection hk with hk
    injection hk with _ hk
    exact ht hk

theorem owns_mono {W : World} {base base' : Nat} {e : TypeId} {size : Nat} {v : Value} {n : Nat} {xs : List Value} (h : W.ownsRow base e size v n xs) (hb : base' ≤ base) : W.ownsRow base' e size v n xs := by
  obtain ⟨q, e⟩ := h
  refine ⟨q, ?_⟩
  rcases e with e | ⟨gg, cap, cur, e1, e2, e3⟩
  · exact .inl e
  · exact .inr ⟨gg, cap, cur, e1, Nat.le_trans hb e2, e3⟩

theorem dangers_len (V : List Edge) (h : V.length ≤ 1048576) : (dangersE V).length ≤ 1099511627776 := by
  have h1 : ∀ U : List Edge, (dangF V U).length ≤ U.length * 1048576 := fun U => by
    induction U with
    | nil => simp [dangF]
    | cons x r ih =>
      have : (grp x.q V).length ≤ V.length := List.length_filter_le _ _
      simp only [dangF, List.flatMap_cons, List.length_append, List.length_map, List.length_cons] at ih ⊢
      omega
  have := h1 V
  unfold dangersE
  omega

theorem cut_done {most : Int} {D : List (Edge × Edge)} (h : ∀ m : Nat, (m : Int) = most → D.length ≤ m) : cutD most D = D := by
  unfold cutD
  split
  · rename_i h0
    exact List.take_of_length_le (h _ (by omega))
  · rfl
theorem cut_stop {most : Int} {pre : List DD} {D : List (Edge × Edge)} (hp : val1 pre <+: D) (hne : pre ≠ []) (hm : ((pre.length - 1 : Nat) : Int) = most) : cutD most D = val1 pre.dropLast := by
  unfold cutD
  rw [if_pos (by omega)]
  obtain ⟨z, rfl⟩ := hp
  have e : most.toNat = pre.length - 1 := by omega
  have hl : 0 < pre.length := List.length_pos_iff.2 hne
  rw [e, List.take_append_of_le_length (by rw [val1_len]; omega), List.dropLast_eq_take]
  unfold val1
  rw [List.map_take]

set_option maxRecDepth 100000 in
set_option maxHeartbeats 8000000 in
theorem dangers_calls (W : World) (v : Value) (l : List Edge) (most : Int) {m0 : Nat} (h : EdR m0 W v l) (hn : l.length ≤ 1048576) (hs : ∀ e ∈ l, okE e) :
    Calls Try.prog 6 #[v, .int .i64 most] W fun e W' => ∃ v', e = .returned v' ∧ W'.ownsRow W.heap.size 33 12 v' (cutD most (dangersE (vulE l))).length (flatD (cutD most (dangersE (vulE l)))) ∧ Below W.heap.size W W' := by
  have h' := h
  obtain ⟨A, c, rfl, _⟩ := h'
  have e1 : (W.alloc (.cells #[.int .i64 most] 3)).heap.size = W.heap.size + 1 := by simp
  have e2 : ((W.alloc (.cells #[.int .i64 most] 3)).alloc (.cells #[.slice none 0 0] 24)).heap.size = W.heap.size + 2 := by simp
  have hb1 := below_mk (below_mk (Below.refl W.heap.size W) (.cells #[.int .i64 most] 3)) (.cells #[.slice none 0 0] 24)
  have HC := Aside0.mk (dangers0_calls ((W.alloc (.cells #[.int .i64 most] 3)).alloc (.cells #[.slice none 0 0] 24)) _ l (h.below hb1) hn (fun e he => (hs e he).1))
  have hn0 : ((W.alloc (.cells #[.int .i64 most] 3)).alloc (.cells #[.slice none 0 0] 24)).heap[W.heap.size]? = some (.cells #[.int .i64 most] 3 (0, 0)) := (Below.heap_alloc _ _ _ (by rw [e1]; omega)).trans (heap_alloc_new W _)
  have hn1 : ((W.alloc (.cells #[.int .i64 most] 3)).alloc (.cells #[.slice none 0 0] 24)).heap[W.heap.size + 1]? = some (.cells #[.slice none 0 0] 24 (0, 0)) := by
    rw [← e1]
    exact heap_alloc_new _ _
  have HB1 := Aside0.mk hb1
  have HN0 := Aside0.mk (And.intro hn0 hn1)
  have HV := Aside0.mk (vulE_ok hs)
  have HVL : Aside0 ((vulE l).length ≤ 1048576) := ⟨Nat.le_trans (vulE_len l) hn⟩
  have HE1 := Aside0.mk e2
  clear h hb1 hs e1 e2 hn0 hn1
  refine (callsIn_wide (n := 5)).1 ?_
  refine callsIn_of_wp_marks Try.func6 rfl trivial ?_ rfl
  simp only [Try.ntmps6, List.size_toArray, List.length_cons, List.length_nil, Nat.reduceAdd, Nat.reduceSub, Array.replicate_succ, Array.replicate_zero, List.push_toArray, List.append_toArray, List.nil_append, List.cons_append]
  gi_wp2_with fail
  refine ⟨trivial, (callsIn_wide.2 HC.out).mono ?_⟩
  rintro e U ⟨hbU, f, rfl, hD⟩
  obtain ⟨b1, b3, rfl⟩ := hD.form
  have hE := HE1.out
  rw [hE] at hbU hD
  have hnU0 := (hbU.block W.heap.size (by omega)).trans HN0.out.1
  have hnU1 := (hbU.block (W.heap.size + 1) (by omega)).trans HN0.out.2
  have hB0 : Below W.heap.size W U := HB1.out.trans (hbU.mono (by omega))
  have hlt := blk_lt hnU1
  have HD := Aside0.mk hD
  have HB0 := Aside0.mk hB0
  have HNU := Aside0.mk (And.intro hnU0 hnU1)
  clear hbU hD hnU0 hnU1 hB0 HB1 HN0
  gi_wp2_with fail
  have hgU := grownBy_refl U (some (W.heap.size + 1))
  refine wpIn_rangeFunc_ownH (F := Fence.wide) rfl (by omega) (gf := 30) (lb := #[.pointer (some ⟨b1, 0, none⟩), .pointer (some ⟨b3, 0, none⟩)]) rfl trivial (enters_of Try.func30 (by kernel_rfl) rfl)
    (dg_stops HD.out HV.out HVL.out _) KpE.trans kpE_b (Below.refl _ _) (fun _ => rfl)
    (DdI U (W.heap.size + 1) most) (fun c pre W' => c = .exit 0 ∧ DdX U (W.heap.size + 1) most pre W')
    (DdI_own _ _ _) (fun c s A B row hs hg hr => ⟨hs.1, DdX_own _ _ _ s A B row hs.2 hg hr⟩) ?h0
    (fun x a' W' => ∃ Bd, U.heap.size ≤ Bd ∧ W'.heap[Bd]? = some (.cells (encD x.1).toArray 33 (0, 0)) ∧ a' = { tmps := #[Value.slice A l.length c, .int .i64 most, undef, .pointer (some ⟨W.heap.size, 0, none⟩), .slice none 0 0, .pointer (some ⟨W.heap.size + 1, 0, none⟩), .pointer (some ⟨Bd, 0, none⟩), .slice A l.length c, .func (.func 30) #[] #[.pointer (some ⟨b1, 0, none⟩), .pointer (some ⟨b3, 0, none⟩)], .agg (encD x.1).toArray, undef, undef, undef, undef, undef, undef, undef, undef, undef], defers := [] })
    ?hAx ?assign ?body ?done ?stop
  case h0 => exact ⟨⟨_, HNU.out.2, World.ownsRow_nil _ _ _ _, fun _ _ => Nat.zero_le _⟩, hgU⟩
  case hAx =>
    rintro x a' s X Y row ⟨Bd, h1, h2, h3⟩ hg hr
    exact ⟨Bd, h1, (hg.block _ (blk_lt h2) (fun e => by
      obtain ⟨o, ho, hc⟩ := (hr _ e.symm).2
      rw [h2] at ho
      cases ho
      cases hc)).trans h2, h3⟩
  case assign =>
    rintro lp pre x W2 K hI hK
    have hst : Sem.run Try.prog (storeCells ⟨W2.heap.size, 0, none⟩ (encD x.1) 0) (W2.alloc (.cells #[.string ⟨#[]⟩, .int .i64 0, .string ⟨#[]⟩, .int .i64 0, .int .i64 0, .bool false, .string ⟨#[]⟩, .int .i64 0, .string ⟨#[]⟩, .int .i64 0, .int .i64 0, .bool false] 33)) = .ok () (W2.alloc (.cells (encD x.1).toArray 33)) := storeNewD W2 x.1
    have hl12 : (encD x.1).length = 12 := rfl
    have HI := Aside0.mk hI
    have HK := Aside0.mk hK
    clear hI hK
    gi_wp2_with fail
    exact HK.out _ _ ((KeepsOthers.alloc _ _).from _) (KpE.below (below_mk (Below.refl _ W2) _) HI.out.2.size) (DdI_own _ _ _ pre W2 _ none HI.out (World.grownBy_alloc W2 _ none) (fun r e => by cases e)) ⟨_, HI.out.2.size, heap_alloc_new W2 _, rfl⟩
  case body =>
    rintro lp pre ⟨⟨⟨p, n, q, m0', k, v⟩, ⟨p', n', q', m', k', v'⟩⟩, hx⟩ a' W2 hl ⟨r, hr⟩ ⟨⟨vo, hbx, how, hct⟩, hg⟩ ⟨Bd, hd1, hd2, rfl⟩ hlen
    obtain ⟨Ao, co, rfl⟩ := owns_form how
    have hd3 : W2.heap[Bd]? = some (.cells #[.string p, .int .i64 n, .string q, .int .i64 m0', .int .i64 k, .bool v, .string p', .int .i64 n', .string q', .int .i64 m', .int .i64 k', .bool v'] 33 (0, 0)) := hd2
    have c5 := hbx.cell
    have f5 := hbx.frozen
    have c3 := (blk_cell ((hg.block W.heap.size (by omega) (by simp)).trans HNU.out.1) 0).trans (show (#[Value.int .i64 most])[0]? = some (.int .i64 most) from rfl)
    by_cases hm : ((pre.length : Nat) : Int) = most
    · have m1 : decide (((pre.length : Nat) : Int) = most) = true := decide_eq_true hm
      have m2 : (((pre.length : Nat) : Int) == most) = true := by simpa using hm
      have HX : Aside0 (DdX U (W.heap.size + 1) most (pre ++ [⟨(⟨p, n, q, m0', k, v⟩, ⟨p', n', q', m', k', v'⟩), hx⟩]) W2) := ⟨⟨_, hbx, by simpa using how, by simp, by simpa using hm⟩, hg⟩
      clear hbx how hct hg hd2 hd3 hlen
      gi_wp2_with fail
      exact ⟨KeepsFrom.refl _ _, rfl, HX.out⟩
    · have m1 : decide (((pre.length : Nat) : Int) = most) = false := decide_eq_false hm
      have m2 : (((pre.length : Nat) : Int) == most) = false := by simpa using hm
      have HI : Aside0 (∀ m : Nat, (m : Int) = most → (pre ++ [(⟨(⟨p, n, q, m0', k, v⟩, ⟨p', n', q', m', k', v'⟩), hx⟩ : DD)]).length ≤ m) := ⟨fun m e => by
        have := hct m e
        rw [List.length_append, List.length_singleton]
        omega⟩
      obtain ⟨i0, hi0, hz0, hz1, hz2⟩ := info_parts info33s
      have t24 := Try.underlying24
      have hdl := dangers_len (vulE l) HVL.out
      have hq4 : Aside0 (pre.length + 1 ≤ maxLen) := ⟨by unfold maxLen; omega⟩
      have hq5 : Aside0 ((pre.length + 1) * 128 ≤ 140737488355328) := ⟨by omega⟩
      have hsz : Aside0 (U.heap.size ≤ (W2.alloc (.cells #[.string p, .int .i64 n, .string q, .int .i64 m0', .int .i64 k, .bool v, .string p', .int .i64 n', .string q', .int .i64 m', .int .i64 k', .bool v'] 33)).heap.size) := ⟨by rw [World.size_alloc]; have := hg.size; omega⟩
      have hnews : Aside0 (∀ j u, (encD (⟨p, n, q, m0', k, v⟩, ⟨p', n', q', m', k', v'⟩))[j]? = some u → (W2.alloc (.cells #[.string p, .int .i64 n, .string q, .int .i64 m0', .int .i64 k, .bool v, .string p', .int .i64 n', .string q', .int .i64 m', .int .i64 k', .bool v'] 33)).cell? ((⟨W2.heap.size, 0, none⟩ : Addr).add j) = some u) := ⟨fun j u hj => by
        rw [Addr.add_lit, Nat.zero_add, blk_cell (heap_alloc_new W2 _)]
        simpa [encD, encE] using hj⟩
      have x0 := (blk_cell hd3 0).trans rfl
      have x1 := (blk_cell hd3 1).trans rfl
      have x2 := (blk_cell hd3 2).trans rfl
      have x3 := (blk_cell hd3 3).trans rfl
      have x4 := (blk_cell hd3 4).trans rfl
      have x5 := (blk_cell hd3 5).trans rfl
      have x6 := (blk_cell hd3 6).trans rfl
      have x7 := (blk_cell hd3 7).trans rfl
      have x8 := (blk_cell hd3 8).trans rfl
      have x9 := (blk_cell hd3 9).trans rfl
      have xa := (blk_cell hd3 10).trans rfl
      have xb := (blk_cell hd3 11).trans rfl
      have HH := Aside0.mk (And.intro hbx (And.intro how hg))
      clear hd2 hd3 hct hlen hdl hbx how hg hr
      gi_wp2_with (gi_at_builtin; refine wpListIn_append_own _ rfl _ _ 24 rfl U.heap.size 33 i0 (.agg (encD zrD).toArray) 12 128 t24 hi0 hz0 hz1 hz2 rfl (by omega) _ _ _ rfl (HH.out.2.1.alloc _) ⟨W2.heap.size, 0, none⟩ 1 1 (encD (⟨p, n, q, m0', k, v⟩, ⟨p', n', q', m', k', v'⟩)) rfl rfl hnews.out (encD_one _) hq4.out hq5.out hsz.out ?_; intro vv w1 hown hgrow _; obtain ⟨g', cap', rfl⟩ := ownsRow_succ hown; obtain ⟨hv1, hv2, hr2, hg2, hk2, hp2⟩ := dd_step (n0 := W.heap.size + 2) (by omega) HH.out.1 (by decide) (by decide) (by decide) HH.out.2.1 HH.out.2.2 hown hgrow; have hc1 := hv1.cell; have hf1 := hv1.frozen; have HZ := Aside0.mk (And.intro hv2 (And.intro hr2 (And.intro hg2 (And.intro hk2 hp2)))); clear hv1 hv2 hr2 hg2 hk2 hp2 hown hgrow)
      obtain ⟨z1, z2, z3, z4, z5⟩ := HZ.out
      exact ⟨z4.from _, z5, ⟨⟨_, z1, by simpa [val1, flatD] using z2, HI.out⟩, z3⟩⟩
  case done =>
    rintro D xs W3 hD hxs ⟨⟨vo, hbx, how, hct⟩, hg⟩ hK
    obtain ⟨Ao, co, rfl⟩ := owns_form how
    have c5 := hbx.cell
    have HF : Aside0 ((W3.putObj D (.deferred none)).ownsRow W.heap.size 33 12 (.slice Ao xs.length co) (cutD most (dangersE (vulE l))).length (flatD (cutD most (dangersE (vulE l)))) ∧ Below W.heap.size W (W3.putObj D (.deferred none))) := ⟨by
      have e : dangersE (vulE l) = val1 xs := hxs.symm
      rw [e, cut_done (by rw [val1_len]; exact hct), val1_len]
      exact ⟨owns_mono (ownsRow_putObj how (.deferred none) hK rfl) (by omega), (HB0.out.trans (grownBy_below hg (by omega) (fun k e => by injection e with e; omega))).trans (belowK_b (w := W) (Nat.le_refl _) W3 D _ _ (by omega) hK rfl rfl)⟩⟩
    clear hbx how hct hg hxs
    gi_wp2_with fail
    refine ⟨by simp, .inl ⟨_, _, rfl, run_takeDeferred hK, ?_⟩⟩
    refine ⟨.slice Ao xs.length co, ?_, ⟨_, rfl, HF.out.1, HF.out.2⟩⟩
    simp [results, Try.f6, go_sem]
  case stop =>
    rintro D c pre W3 hD hpre ⟨rfl, ⟨vo, hbx, how, hne, hm⟩, hg⟩ hK
    obtain ⟨Ao, co, rfl⟩ := owns_form how
    have c5 := hbx.cell
    have HF : Aside0 ((W3.putObj D (.deferred none)).ownsRow W.heap.size 33 12 (.slice Ao (pre.length - 1) co) (cutD most (dangersE (vulE l))).length (flatD (cutD most (dangersE (vulE l)))) ∧ Below W.heap.size W (W3.putObj D (.deferred none))) := ⟨by
      rw [cut_stop hpre hne hm, val1_len, List.length_dropLast]
      exact ⟨owns_mono (ownsRow_putObj how (.deferred none) hK rfl) (by omega), (HB0.out.trans (grownBy_below hg (by omega) (fun k e => by injection e with e; omega))).trans (belowK_b (w := W) (Nat.le_refl _) W3 D _ _ (by omega) hK rfl rfl)⟩⟩
    clear hbx how hm hg hpre hne
    gi_wp2_with fail
    refine ⟨by simp, .inl ⟨_, _, rfl, run_takeDeferred hK, ?_⟩⟩
    refine ⟨.slice Ao (pre.length - 1) co, ?_, ⟨_, rfl, HF.out.1, HF.out.2⟩⟩
    simp [results, Try.f6, go_sem]
end Go.Proofs.Ytknpkfjaffhejaa
