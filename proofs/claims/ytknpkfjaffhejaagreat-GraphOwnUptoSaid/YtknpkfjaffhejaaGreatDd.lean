/- WHAT IS PROVED: dangers hands back the dangers, up to a number. -/
import Derived.Test.YtknpkfjaffhejaaGreatSf
import Derived.RangeFuncBox
import Derived.Maps.AppendAt
namespace Go.Proofs.YtknpkfjaffhejaaGreat
open Go.RowKit Go.Shelf Go.Proofs.YtknpkfjaffhejaaGreatW.PrintWords Go.Proofs.YtknpkfjaffhejaaGreatW.PrintLast Go.Proofs.YtknpkfjaffhejaaGreatW.PrintMore
attribute [local go_sem] Oper.semAt_some
set_option linter.unusedVariables false
set_option linter.unusedSimpArgs false

theorem encD_len (x : Edge × Edge) : (encD x).length = 12 := rfl
theorem encD_one (x : Edge × Edge) : ∀ v ∈ encD x, v.oneCell' = true := fun v hv => by
  rw [encD, List.mem_append] at hv
  rcases hv with hv | hv
  · exact encE_one _ v hv
  · exact encE_one _ v hv
def flatD (l : List (Edge × Edge)) : List Value := l.flatMap encD
theorem flatD_len (l : List (Edge × Edge)) : (flatD l).length = l.length * 12 := by
  induction l with
  | nil => rfl
  | cons x r ih => simp only [flatD, List.flatMap_cons, List.length_append, encD_len, List.length_cons] at *; rw [ih]; omega
theorem flatD_get (l : List (Edge × Edge)) : ∀ j, j < l.length * 12 → (flatD l)[j]? = (encD l[j / 12]!)[j % 12]? := by
  induction l with
  | nil => intro j hj; simp at hj
  | cons x r ih =>
    intro j hj
    rw [flatD, List.flatMap_cons]
    by_cases h : j < 12
    · rw [List.getElem?_append_left (by rw [encD_len]; exact h), Nat.div_eq_of_lt h, Nat.mod_eq_of_lt h]
      rfl
    · rw [List.getElem?_append_right (by rw [encD_len]; omega), encD_len]
      have := ih (j - 12) (by simp at hj; omega)
      rw [flatD] at this
      rw [this]
      have e1 : j / 12 = (j - 12) / 12 + 1 := by omega
      have e2 : j % 12 = (j - 12) % 12 := by omega
      rw [e1, e2]
      simp
def zrD : Edge × Edge := (zrE, zrE)
theorem info33s : (Tryz.prog.info? 42).map (fun i => (i.zero, i.size, i.bytes)) = some (some (.agg (encD zrD).toArray), 12, 128) := by kernel_rfl

theorem fill_list (w : World) (ty : TypeId) : ∀ (vs zs pre : List Value), zs.length = vs.length → (w.alloc (.cells (pre ++ zs).toArray ty)).setCells w.heap.size pre.length vs = w.alloc (.cells (pre ++ vs).toArray ty)
  | [], [], pre, _ => rfl
  | v :: vs, z :: zs, pre, h => by
    rw [World.setCells, World.setCell_alloc_new]
    have e : ((pre ++ z :: zs).toArray.setIfInBounds pre.length v) = ((pre ++ [v]) ++ zs).toArray := by simp
    have := fill_list w ty vs zs (pre ++ [v]) (by simpa using h)
    rw [List.length_append, List.length_singleton] at this
    rw [e, this]
    simp
  | [], _ :: _, _, h => by simp at h
  | _ :: _, [], _, h => by simp at h
theorem storeNewD (w : World) (u : Edge × Edge) : Sem.run Tryz.prog (storeCells ⟨w.heap.size, 0, none⟩ (encD u) 0) (w.alloc (.cells (encD zrD).toArray 42)) = .ok () (w.alloc (.cells (encD u).toArray 42)) := by
  have hn := heap_alloc_new w (.cells (encD zrD).toArray 42)
  have := run_storeCells_cells (P := Tryz.prog) w.heap.size 0 (encD u) 0 (w.alloc (.cells (encD zrD).toArray 42)) (fun c hc => by
    rw [Nat.add_zero, Nat.zero_add, blk_cell hn]
    rw [encD_len] at hc
    match c, hc with
    | 0, _ => rfl
    | 1, _ => rfl
    | 2, _ => rfl
    | 3, _ => rfl
    | 4, _ => rfl
    | 5, _ => rfl
    | 6, _ => rfl
    | 7, _ => rfl
    | 8, _ => rfl
    | 9, _ => rfl
    | 10, _ => rfl
    | 11, _ => rfl) (fun c hc => blk_frozen hn _) (encD_one u)
  rw [this, Nat.zero_add]
  have := fill_list w 42 (encD u) (encD zrD) [] rfl
  simp only [List.nil_append, List.length_nil] at this
  exact congrArg (Result.ok ()) this

/-- A slice of dangers. -/
def DaR (W : World) (v : Value) (l : List (Edge × Edge)) : Prop := ∃ A c, v = .slice A l.length c ∧ (l ≠ [] → ∃ b off, A = some ⟨b, off, none⟩ ∧ ∀ j u, (flatD l)[j]? = some u → W.cell? ⟨b, off + j, none⟩ = some u)
theorem DaR.of_owns {W : World} {base : Nat} {v : Value} {l : List (Edge × Edge)} (h : W.ownsRow base 42 12 v l.length (flatD l)) : DaR W v l := by
  obtain ⟨e1, ⟨rfl, e2⟩ | ⟨gg, cap, cur, rfl, a2, a3, a4, a5, a6, a7⟩⟩ := h
  · rw [List.length_eq_zero_iff] at e2
    subst e2
    exact ⟨none, 0, rfl, fun h => absurd rfl h⟩
  · refine ⟨_, cap, rfl, fun _ => ⟨gg, 0, rfl, fun j u hj => ?_⟩⟩
    rw [Nat.zero_add, blk_cell a3, ← Array.getElem?_toList]
    rw [← a7, List.getElem?_take] at hj
    split at hj
    · exact hj
    · cases hj
theorem DaR.below {W W' : World} {v : Value} {l : List (Edge × Edge)} (h : DaR W v l) (hb : Below W.heap.size W W') : DaR W' v l := by
  obtain ⟨A, c, rfl, hA⟩ := h
  refine ⟨A, c, rfl, fun hl => ?_⟩
  obtain ⟨b, off, rfl, hc⟩ := hA hl
  exact ⟨b, off, rfl, fun j u hj => cell_below hb (hc j u hj)⟩

/-- Up to a number. -/
def cutD {α : Type} (most : Int) (D : List α) : List α := if 0 ≤ most then D.take most.toNat else D

def val1 (pre : List DD) : List (Edge × Edge) := pre.map (·.1)
theorem val1_len (pre : List DD) : (val1 pre).length = pre.length := by simp [val1]

theorem owns_form {W : World} {base : Nat} {e : TypeId} {size : Nat} {v : Value} {n : Nat} {xs : List Value} (h : W.ownsRow base e size v n xs) : ∃ A c, v = .slice A n c := by
  rcases h.2 with ⟨rfl, rfl⟩ | ⟨g, cap, _, rfl, _⟩
  · exact ⟨none, 0, rfl⟩
  · exact ⟨_, _, rfl⟩

/-- What dangers' loop keeps. -/
def DdI (U : World) (B5 : Nat) (most : Int) (pre : List DD) (W' : World) : Prop := (∃ v, Boxed W' B5 40 v ∧ W'.ownsRow U.heap.size 42 12 v pre.length (flatD (val1 pre)) ∧ ∀ m : Nat, (m : Int) = most → pre.length ≤ m) ∧ U.grownBy W' (some B5)
def DdX (U : World) (B5 : Nat) (most : Int) (pre : List DD) (W' : World) : Prop := (∃ v, Boxed W' B5 40 v ∧ W'.ownsRow U.heap.size 42 12 v (pre.length - 1) (flatD (val1 pre.dropLast)) ∧ pre ≠ [] ∧ ((pre.length - 1 : Nat) : Int) = most) ∧ U.grownBy W' (some B5)
theorem ownFrom_grown {β : Type} (U : World) (B5 : Nat) : OwnFrom U.heap.size (fun (_ : β) W' => U.grownBy W' (some B5)) := fun s A B row hs hg hr => grown_step hs hg (fun r e => Or.inl (hr r e).1)
theorem DdI_own (U : World) (B5 : Nat) (most : Int) : OwnFrom U.heap.size (DdI U B5 most) :=
  OwnFrom.and ((holdsRow_own U.heap.size B5 40 42 12 (fun pre : List DD => pre.length) (fun pre => flatD (val1 pre)) (fun pre _ => ∀ m : Nat, (m : Int) = most → pre.length ≤ m)).from _) (ownFrom_grown U B5)
theorem DdX_own (U : World) (B5 : Nat) (most : Int) : OwnFrom U.heap.size (DdX U B5 most) :=
  OwnFrom.and ((holdsRow_own U.heap.size B5 40 42 12 (fun pre : List DD => pre.length - 1) (fun pre => flatD (val1 pre.dropLast)) (fun pre _ => pre ≠ [] ∧ ((pre.length - 1 : Nat) : Int) = most)).from _) (ownFrom_grown U B5)

theorem owns_no31 {W : World} {base : Nat} {e : TypeId} {size : Nat} {v : Value} {n : Nat} {xs : List Value} (h : W.ownsRow base e size v n xs) (he : e ≠ 39) {k : Nat} {cs : Array Value} {fr : Nat × Nat} (hk : W.heap[k]? = some (.cells cs 39 fr)) : some k ≠ v.ownBlock := by
  rcases h.2 with ⟨rfl, _⟩ | ⟨g, cap, cur, rfl, _, hgb, _⟩
  · simp [Value.ownBlock]
  · intro e'
    obtain rfl : k = g := by simpa [Value.ownBlock] using e'
    rw [hgb] at hk
    injection hk with hk
    injection hk with _ hk
    exact he hk
theorem dd_step {U W w1 : World} {n0 B5 : Nat} {t e : TypeId} {size n m : Nat} {v v' : Value} {xs ys : List Value} {tmp : Obj} (hb : B5 < n0) (hbx : Boxed W B5 t v) (hte : t ≠ e) (ht : t ≠ 39) (he : e ≠ 39) (how : W.ownsRow U.heap.size e size v n xs) (hg : U.grownBy W (some B5))
    (hown : w1.ownsRow U.heap.size e size v' m ys) (hgrow : (W.alloc tmp).grownBy w1 v.ownBlock) :
    Boxed w1 B5 t v ∧ Boxed (w1.setCell ⟨B5, 0, none⟩ v') B5 t v' ∧ (w1.setCell ⟨B5, 0, none⟩ v').ownsRow U.heap.size e size v' m ys ∧ U.grownBy (w1.setCell ⟨B5, 0, none⟩ v') (some B5) ∧ KeepsOthers W (w1.setCell ⟨B5, 0, none⟩ v') ∧ KpE n0 U.heap.size W (w1.setCell ⟨B5, 0, none⟩ v') := by
  have hv1 : Boxed w1 B5 t v := (hbx.alloc tmp).kept hgrow (hbx.not_row hte how)
  have hrow := (how.alloc tmp).lt
  refine ⟨hv1, hv1.set v', hown.kept (grownBy_setCell' w1 B5 v') (.inr (hv1.not_row hte hown).symm), ?_, ?_, ?_, ?_⟩
  · exact grown_step (grown_step (grown_step hg (World.grownBy_alloc W tmp none) (fun r e => by cases e)) hgrow (fun r e => Or.inl (hrow r e).1)) (grownBy_setCell' w1 B5 v') (fun r e => Or.inr (by injection e with e; exact e.symm))
  · refine ((KeepsOthers.alloc W tmp).trans (KeepsOthers.of_grownBy hgrow fun j o ej hj => ?_)).trans (KeepsOthers.setCell _ _ _)
    rcases (how.alloc tmp).2 with ⟨rfl, _⟩ | ⟨g, cap, cur, rfl, _, hgb, _⟩
    · simp [Value.ownBlock] at ej
    · obtain rfl : g = j := by simpa [Value.ownBlock] using ej
      rw [hgb] at hj; cases hj; rfl
  · intro k h1 h2
    have hk := hg.size
    refine (Below.heap_setCell _ _ _ _ (by show k ≠ B5; omega)).trans ((hgrow.block k (by rw [World.size_alloc]; omega) (fun e => ?_)).trans (Below.heap_alloc _ _ _ (by omega)))
    have := (hrow k e.symm).1
    omega
  · intro k cs fr hk
    have hlt := blk_lt hk
    have h1 : (W.alloc tmp).heap[k]? = some (.cells cs 39 fr) := (Below.heap_alloc _ _ _ hlt).trans hk
    refine (Below.heap_setCell _ _ _ _ (fun e => ?_)).trans ((hgrow.block k (by rw [World.size_alloc]; omega) (owns_no31 (how.alloc tmp) he h1)).trans (Below.heap_alloc _ _ _ hlt))
    have e : k = B5 := e
    subst e
    rw [show W.heap[k]? = _ from hbx] at hk
    injection hk with hk
    injection hk with _ hk
    exact ht hk

theorem owns_mono {W : World} {base base' : Nat} {e : TypeId} {size : Nat} {v : Value} {n : Nat} {xs : List Value} (h : W.ownsRow base e size v n xs) (hb : base' ≤ base) : W.ownsRow base' e size v n xs := by
  obtain ⟨q, e⟩ := h
  refine ⟨q, ?_⟩
  rcases e with e | ⟨gg, cap, cur, e1, e2, e3⟩
  · exact .inl e
  · exact .inr ⟨gg, cap, cur, e1, Nat.le_trans hb e2, e3⟩

theorem dangers_len (V : List Edge) (h : V.length ≤ 1048576) : (dangersE V).length ≤ 1099511627776 := by
  have h1 : ∀ U : List Edge, (dangF V U).length ≤ U.length * 1048576 := fun U => by
    induction U with
    | nil => simp [dangF]
    | cons x r ih =>
      have : (grp x.q V).length ≤ V.length := List.length_filter_le _ _
      simp only [dangF, List.flatMap_cons, List.length_append, List.length_map, List.length_cons] at ih ⊢
      omega
  have := h1 V
  unfold dangersE
  omega

theorem cut_done {most : Int} {D : List (Edge × Edge)} (h : ∀ m : Nat, (m : Int) = most → D.length ≤ m) : cutD most D = D := by
  unfold cutD
  split
  · rename_i h0
    exact List.take_of_length_le (h _ (by omega))
  · rfl
theorem cut_stop {most : Int} {pre : List DD} {D : List (Edge × Edge)} (hp : val1 pre <+: D) (hne : pre ≠ []) (hm : ((pre.length - 1 : Nat) : Int) = most) : cutD most D = val1 pre.dropLast := by
  unfold cutD
  rw [if_pos (by omega)]
  obtain ⟨z, rfl⟩ := hp
  have e : most.toNat = pre.length - 1 := by omega
  have hl : 0 < pre.length := List.length_pos_iff.2 hne
  rw [e, List.take_append_of_le_length (by rw [val1_len]; omega), List.dropLast_eq_take]
  unfold val1
  rw [List.map_take]

end Go.Proofs.YtknpkfjaffhejaaGreat
