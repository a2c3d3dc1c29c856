/- WHAT IS PROVED: what GraphTraces asks of dangers, plain. -/
import Derived.Test.YtknpkfjaffhejaaGreatTk
import Derived.Test.YtknpkfjaffhejaaGreatIn
import Derived.Test.YtknpkfjaffhejaaGreatVr
namespace Go.Proofs.YtknpkfjaffhejaaGreat
open Go.RowKit Go.Sort Go.Lib
set_option linter.unusedVariables false
set_option linter.unusedSimpArgs false

theorem lessSto : STO lessE := cmpE3.sto
theorem mem_vul_iff {l : List Edge} {x : Edge} : x ∈ vulE l ↔ x ∈ l ∧ x.v = true := by
  rw [← refV_eq, refV, mem_insAll lessSto, List.mem_filter]
theorem vul_nodup (l : List Edge) : (vulE l).Nodup := by
  rw [← refV_eq, refV]
  refine (insAll_sorted lessSto _).imp ?_
  intro a b h e
  subst e
  rw [lessSto.irrefl] at h
  cases h
theorem mem_dang_iff {V : List Edge} {x : Edge × Edge} : x ∈ dangersE V ↔ x.1 ∈ V ∧ x.2 ∈ V ∧ x.1.q = x.2.p := by
  unfold dangersE dangF grp
  rw [List.mem_flatMap]
  constructor
  · rintro ⟨y, hy, h⟩
    obtain ⟨z, hz, rfl⟩ := List.mem_map.1 h
    rw [List.mem_filter] at hz
    exact ⟨hy, hz.1, (of_decide_eq_true hz.2).symm⟩
  · rintro ⟨h1, h2, h3⟩
    exact ⟨x.1, h1, List.mem_map.2 ⟨x.2, List.mem_filter.2 ⟨h2, decide_eq_true h3.symm⟩, rfl⟩⟩
theorem dang_nodup {V : List Edge} (h : V.Nodup) : (dangersE V).Nodup := by
  have : ∀ U : List Edge, U.Nodup → (dangF V U).Nodup := fun U => by
    induction U with
    | nil => intro _; exact List.nodup_nil
    | cons a r ih =>
      intro hU
      rw [List.nodup_cons] at hU
      rw [dangF, List.flatMap_cons]
      refine List.nodup_append.2 ⟨List.pairwise_map.2 ((h.filter _).imp fun hne e => hne (by simpa using e)), ih hU.2, fun x hx y hy => ?_⟩
      obtain ⟨z, _, rfl⟩ := List.mem_map.1 hx
      intro e
      subst e
      obtain ⟨b, hb, hy⟩ := List.mem_flatMap.1 hy
      obtain ⟨w, _, hw⟩ := List.mem_map.1 hy
      have : b = a := by simpa using (Prod.ext_iff.1 hw).1
      subst this
      exact hU.1 hb
  exact this V h
theorem dang_le (V : List Edge) : (dangersE V).length ≤ V.length * V.length := by
  have h1 : ∀ U : List Edge, (dangF V U).length ≤ U.length * V.length := fun U => by
    induction U with
    | nil => simp [dangF]
    | cons x r ih =>
      have : (grp x.q V).length ≤ V.length := List.length_filter_le _ _
      simp only [dangF, List.flatMap_cons, List.length_append, List.length_map, List.length_cons, Nat.add_mul] at ih ⊢
      omega
  exact h1 V

/-- How often a danger is told, up to a place. -/
def told (D : List (Edge × Edge)) (a b : Edge) (j : Nat) : Nat := ((D.take j).filter fun x => decide (x.1 = a ∧ x.2 = b)).length
theorem told_zero (D : List (Edge × Edge)) (a b : Edge) : told D a b 0 = 0 := by simp [told]
theorem told_succ (D : List (Edge × Edge)) (a b : Edge) (j : Nat) (hj : j < D.length) : told D a b (j + 1) = if D[j]!.1 = a ∧ D[j]!.2 = b then told D a b j + 1 else told D a b j := by
  rw [getElem!_pos D j hj]
  unfold told
  rw [List.take_succ_eq_append_getElem hj, List.filter_append, List.length_append]
  by_cases h : D[j].1 = a ∧ D[j].2 = b
  · rw [if_pos h]; simp [h]
  · rw [if_neg h]
    have : [D[j]].filter (fun x => decide (x.1 = a ∧ x.2 = b)) = [] := by simp; exact fun e1 e2 => h ⟨e1, e2⟩
    rw [this]
    rfl
theorem told_le (D : List (Edge × Edge)) (a b : Edge) (j : Nat) : told D a b j ≤ D.length := by
  unfold told
  refine Nat.le_trans (List.length_filter_le _ _) ?_
  rw [List.length_take]
  omega
theorem told_end {D : List (Edge × Edge)} (hD : D.Nodup) {a b : Edge} (h : (a, b) ∈ D) : told D a b D.length = 1 := by
  have e : ∀ l : List (Edge × Edge), l.Nodup → (a, b) ∈ l → (l.filter fun x => decide (x.1 = a ∧ x.2 = b)).length = 1 := fun l => by
    induction l with
    | nil => intro _ h; cases h
    | cons x r ih =>
      intro hn hm
      rw [List.nodup_cons] at hn
      by_cases hx : x.1 = a ∧ x.2 = b
      · have hxe : x = (a, b) := Prod.ext hx.1 hx.2
        have hr : r.filter (fun x => decide (x.1 = a ∧ x.2 = b)) = [] := by
          rw [List.filter_eq_nil_iff]
          intro y hy hc
          have := of_decide_eq_true hc
          have hye : y = (a, b) := Prod.ext this.1 this.2
          exact hn.1 (by rw [hxe, ← hye]; exact hy)
        rw [List.filter_cons_of_pos (by exact decide_eq_true hx), hr]
        rfl
      · rw [List.filter_cons_of_neg (by simpa using hx)]
        refine ih hn.2 ?_
        rcases List.mem_cons.1 hm with h | h
        · exact absurd ⟨by rw [← h], by rw [← h]⟩ hx
        · exact h
  unfold told
  rw [List.take_length]
  exact e D hD h
theorem trk_empty {D : List (Edge × Edge)} {T : List SI} (h : ∀ s, s ∈ T ↔ s ∈ trk D) : (((T.length : Nat) : Int) == 0) = (((D.length : Nat) : Int) == 0) := by
  cases D with
  | nil =>
    have : T = [] := by
      cases T with
      | nil => rfl
      | cons t r => have := (h t).1 (by simp); simp [trk] at this
    rw [this]
    rfl
  | cons x r =>
    have hm : (x.1.p, x.1.n) ∈ T := (h _).2 (mem_trk.2 ⟨x, by simp, .inl rfl⟩)
    cases T with
    | nil => cases hm
    | cons t s =>
      rw [Bool.eq_iff_iff]
      simp
      omega
end Go.Proofs.YtknpkfjaffhejaaGreat
