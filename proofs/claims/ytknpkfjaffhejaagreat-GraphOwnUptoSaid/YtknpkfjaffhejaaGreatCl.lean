/- WHAT IS PROVED: slices.Clone at edges, ordered, vulnerable. -/
import Derived.Test.YtknpkfjaffhejaaGreatDl
namespace Go.Proofs.YtknpkfjaffhejaaGreat
open Go.RowKit Go.Sort Go.Lib Go.Proofs.YtknpkfjaffhejaaGreatW.PrintWords Go.Proofs.YtknpkfjaffhejaaGreatW.PrintLast Go.Proofs.YtknpkfjaffhejaaGreatW.PrintMore
set_option linter.unusedVariables false
set_option linter.unusedSimpArgs false

theorem info_parts {o : Option TypeInfo} {z : Option Value} {s b : Nat} (h : o.map (fun i => (i.zero, i.size, i.bytes)) = some (z, s, b)) : ∃ i, o = some i ∧ i.zero = z ∧ i.size = s ∧ i.bytes = b := by
  cases o with
  | none => cases h
  | some i => simp at h; exact ⟨i, rfl, h.1, h.2.1, h.2.2⟩
theorem info31s : (Tryz.prog.info? 39).map (fun i => (i.zero, i.size, i.bytes)) = some (some (.agg (encE zrE).toArray), 6, 64) := by kernel_rfl

/-- The edges' cells. -/
def flatE (l : List Edge) : List Value := l.flatMap encE
theorem flatE_len (l : List Edge) : (flatE l).length = l.length * 6 := by
  induction l with
  | nil => rfl
  | cons x r ih => simp only [flatE, List.flatMap_cons, List.length_append, encE_len, List.length_cons] at *; rw [ih]; omega
theorem flatE_one (l : List Edge) : ∀ u ∈ flatE l, u.oneCell' = true := fun u hu => by
  simp only [flatE, List.mem_flatMap] at hu
  obtain ⟨x, _, hx⟩ := hu
  exact encE_one x u hx
theorem flatE_get (l : List Edge) : ∀ j, j < l.length * 6 → (flatE l)[j]? = (encE l[j / 6]!)[j % 6]? := by
  induction l with
  | nil => intro j hj; simp at hj
  | cons x r ih =>
    intro j hj
    rw [flatE, List.flatMap_cons]
    by_cases h : j < 6
    · rw [List.getElem?_append_left (by rw [encE_len]; exact h), Nat.div_eq_of_lt h, Nat.mod_eq_of_lt h]
      rfl
    · rw [List.getElem?_append_right (by rw [encE_len]; omega), encE_len]
      have := ih (j - 6) (by simp at hj; omega)
      rw [flatE] at this
      rw [this]
      have e1 : j / 6 = (j - 6) / 6 + 1 := by omega
      have e2 : j % 6 = (j - 6) % 6 := by omega
      rw [e1, e2]
      simp

/-- A slice of edges. -/
def EdR (n0 : Nat) (W : World) (v : Value) (l : List Edge) : Prop := ∃ A c, v = .slice A l.length c ∧ (l ≠ [] → ∃ b off, A = some ⟨b, off, none⟩ ∧ n0 ≤ b ∧ ∀ j u, (flatE l)[j]? = some u → W.cell? ⟨b, off + j, none⟩ = some u)

theorem cell_below {W W' : World} (h : Below W.heap.size W W') {ad : Addr} {u : Value} (hc : W.cell? ad = some u) : W'.cell? ad = some u :=
  (World.cell?_of_block (h.block _ (World.block_lt_of_cell? W ad hc))).trans hc
theorem EdR.below {n0 : Nat} {W W' : World} {v : Value} {l : List Edge} (h : EdR n0 W v l) (hb : Below W.heap.size W W') : EdR n0 W' v l := by
  obtain ⟨A, c, rfl, hA⟩ := h
  refine ⟨A, c, rfl, fun hl => ?_⟩
  obtain ⟨b, off, rfl, h0, hc⟩ := hA hl
  exact ⟨b, off, rfl, h0, fun j u hj => cell_below hb (hc j u hj)⟩
theorem EdR.mono {n0 n1 : Nat} {W : World} {v : Value} {l : List Edge} (h : EdR n0 W v l) (hn : n1 ≤ n0) : EdR n1 W v l := by
  obtain ⟨A, c, rfl, hA⟩ := h
  refine ⟨A, c, rfl, fun hl => ?_⟩
  obtain ⟨b, off, rfl, h0, hc⟩ := hA hl
  exact ⟨b, off, rfl, Nat.le_trans hn h0, hc⟩
theorem EdR.nil {n0 : Nat} {W : World} (p : Option Addr) (c : Nat) {l : List Edge} (hl : l = []) : EdR n0 W (.slice p 0 c) l := by
  subst hl
  exact ⟨p, c, rfl, fun h => absurd rfl h⟩
theorem Row.ed {w0 : World} {blk off : Nat} {d : Array Edge} {W : World} (h : Row w0 blk off d W) (cap : Nat) : EdR w0.heap.size W (.slice (some ⟨blk, off, none⟩) d.size cap) d.toList := by
  refine ⟨some ⟨blk, off, none⟩, cap, by simp, fun _ => ⟨blk, off, rfl, h.old, fun j u hj => ?_⟩⟩
  have hlt : j < d.size * 6 := by
    have := (List.getElem?_eq_some_iff.1 hj).1
    rw [flatE_len] at this
    simpa using this
  rw [flatE_get _ _ (by simpa using hlt)] at hj
  have e : d.toList[j / 6]! = d[j / 6]! := by
    rw [getElem!_pos d (j / 6) (by omega), getElem!_pos d.toList (j / 6) (by simp; omega)]
    simp
  rw [e] at hj
  have := HoldsK.cells h.holds encE_len (i := j / 6) (by omega) (j % 6) u hj
  rw [Addr.add_lit] at this
  rw [← this]
  congr 2
  omega

/-- A fresh row, out of an owned one. -/
theorem row_of_owns {w w' : World} {v : Value} {l : List Edge} (h : w'.ownsRow w.heap.size 39 6 v l.length (flatE l)) (hb : Below w.heap.size w w') (hne : v ≠ .slice none 0 0) : ∃ g cap, v = .slice (some ⟨g, 0, none⟩) l.length cap ∧ l.length ≤ cap ∧ Row w g 0 l.toArray w' := by
  obtain ⟨_, ⟨rfl, _⟩ | ⟨g, cap, cur, rfl, hg, hh, hn, hm, hs, hx⟩⟩ := h
  · exact absurd rfl hne
  · refine ⟨g, cap, rfl, hn, hg, blk_lt hh, hb, fun j hj => ?_⟩
    rw [size_flatK] at hj
    have hj' : j < l.length * 6 := by simpa using hj
    refine ⟨?_, blk_frozen hh _⟩
    rw [blk_cell hh, get_flatK _ _ _ _ hj, Nat.zero_add, ← Array.getElem?_toList]
    have h1 : (cur.toList.take (l.length * 6))[j]? = (flatE l)[j]? := by rw [hx]
    rw [List.getElem?_take, if_pos hj', flatE_get l j hj'] at h1
    rw [h1]
    have e : l.toArray[j / 6]! = l[j / 6]! := by
      rw [getElem!_pos l (j / 6) (by omega), getElem!_pos l.toArray (j / 6) (by simp; omega)]
      simp
    rw [e]
    show _ = some (encE l[j / 6]!)[j % 6]!
    rw [getElem!_pos (encE l[j / 6]!) (j % 6) (by rw [encE_len]; omega)]
    exact List.getElem?_eq_getElem _

set_option maxHeartbeats 2000000 in
set_option maxRecDepth 100000 in
theorem clone_calls (W : World) (v : Value) (l : List Edge) {n0 : Nat} (h : EdR n0 W v l) (hn : l.length ≤ 1048576) :
    Calls Tryz.prog 46 #[v] W fun e W' => Below W.heap.size W W' ∧ ((l = [] ∧ ∃ p c, e = .returned (.slice p 0 c)) ∨ ∃ g cap, e = .returned (.slice (some ⟨g, 0, none⟩) l.length cap) ∧ l.length ≤ cap ∧ Row W g 0 l.toArray W') := by
  obtain ⟨A, c, rfl, hA⟩ := h
  obtain ⟨i0, hi0, hz0, hz1, hz2⟩ := info_parts info31s
  have t22 := Tryz.underlying22
  have q22 : ∀ (w : World) (a : Option Addr) (n c n' c' : Nat), (binOp .eql 22 (.slice a n c) (.slice none n' c')).run Tryz.prog w = .ok (.bool a.isNone) w := fun w a n c n' c' => Lib.run_eql_slice_nil w _ _ a n c n' c' t22
  cases A with
  | none =>
    have hl : l = [] := Classical.byContradiction fun hl => by
      obtain ⟨_, _, h, _, _⟩ := hA hl
      cases h
    subst hl
    clear hA
    go_enter Tryz.func46, Tryz.ntmps46
    go_wp2
    go_ret
    exact ⟨Below.refl _ _, .inl ⟨by first | rfl | trivial, _, _, rfl⟩⟩
  | some ad =>
    have hc : Aside0 (∀ j u, (flatE l)[j]? = some u → W.cell? (ad.add j) = some u) := ⟨fun j u hj => by
      by_cases hl : l = []
      · subst hl; simp [flatE] at hj
      · obtain ⟨b, off, he, _, hc⟩ := hA hl
        injection he with he
        subst he
        rw [Addr.add_lit]
        exact hc j u hj⟩
    clear hA
    go_enter Tryz.func46, Tryz.ntmps46
    go_wp2_with (at_builtin; refine wpList_append_own _ rfl _ _ 22 rfl W.heap.size 39 i0 (.agg (encE zrE).toArray) 6 64 t22 hi0 hz0 hz1 hz2 rfl (by omega) _ _ _ rfl (World.ownsRow_made W #[] 0 (Nat.le_refl _) (Nat.zero_le _) (by simp)) ad l.length c (flatE l) rfl ?qc1 ?qc2 ?qc3 ?qc4 ?qc5 ?qc6 ?_)
    case qc1 => exact flatE_len l
    case qc2 =>
      intro j u hj
      exact Lib.cell?_alloc_some _ (hc.out j u hj)
    case qc3 => exact flatE_one l
    case qc4 => rw [Nat.zero_add]; unfold maxLen; omega
    case qc5 => rw [Nat.zero_add]; omega
    case qc6 => simp
    intro v' w1 hown hgrow hnil
    go_wp2
    go_ret
    have hb : Below W.heap.size W w1 := ((Below.refl _ W).alloc (Nat.le_refl _) _).grown hgrow (by simp) (by intro k hk; simp [Value.ownBlock] at hk; omega)
    obtain ⟨g, cap, rfl, h1, h2⟩ := row_of_owns (by simpa using hown) hb (by simpa using hnil)
    exact ⟨hb, .inr ⟨g, cap, rfl, h1, h2⟩⟩

theorem Row.mono {w0 w1 : World} {blk off : Nat} {d : Array Edge} {W : World} (h : Row w1 blk off d W) (hb : Below w0.heap.size w0 w1) : Row w0 blk off d W :=
  ⟨Nat.le_trans hb.size h.old, h.lt, hb.trans (h.below.mono hb.size), h.holds⟩
theorem below_to {a b c : World} (h : Below a.heap.size a b) (k : Below b.heap.size b c) : Below a.heap.size a c := h.trans (k.mono h.size)

/-- Edges in order, each once. -/
def ordE (l : List Edge) : List Edge := compactUpTo (sortE l).toArray (sortE l).length
theorem ordE_nil : ordE [] = [] := by simp [ordE, sortE, compactUpTo]
theorem sortE_len (l : List Edge) : (sortE l).length = l.length := by simp [sortE]
theorem compact_len (d : Array Edge) : (compactUpTo d d.size).length ≤ d.size := by
  unfold compactUpTo
  rw [List.length_map]
  exact Nat.le_trans (List.length_filter_le _ _) (by simp)
theorem ordE_len (l : List Edge) : (ordE l).length ≤ l.length := by
  have := compact_len (sortE l).toArray
  simp only [List.size_toArray, sortE_len] at this
  rw [ordE, sortE_len]
  exact this

set_option maxHeartbeats 2000000 in
set_option maxRecDepth 100000 in
theorem ordered_calls (W : World) (v : Value) (l : List Edge) {n0 : Nat} (h : EdR n0 W v l) (hn : l.length ≤ 1048576) :
    Calls Tryz.prog 44 #[v] W fun e W' => Below W.heap.size W W' ∧ ∃ v', e = .returned v' ∧ EdR W.heap.size W' v' (ordE l) := by
  have hc := clone_calls W v l h hn
  have H : Aside0 (∀ p c W1, Below W.heap.size W W1 → l = [] → Calls Tryz.prog 46 #[.slice p 0 c] W1 fun e W' => Below W.heap.size W W' ∧ ∃ v', e = .returned v' ∧ EdR W.heap.size W' v' (ordE l)) := ⟨fun p c W1 hb hl => by
    subst hl
    refine (clone_calls W1 (.slice p 0 c) [] (n0 := 0) (EdR.nil p c rfl) (by simp)).mono ?_
    rintro e W' ⟨hb', ⟨_, p', c', rfl⟩ | ⟨g, cap, rfl, _, _⟩⟩
    · exact ⟨below_to hb hb', _, rfl, EdR.nil p' c' ordE_nil⟩
    · exact ⟨below_to hb hb', _, rfl, EdR.nil _ cap ordE_nil⟩⟩
  have H2 : Aside0 (∀ g cap W1, Row W g 0 l.toArray W1 → l.length ≤ cap →
      Calls Tryz.prog 59 #[.slice (some ⟨g, 0, none⟩) l.length cap, .func (.func 60) #[] #[]] W1 fun e W' => e = .returned (.tuple #[]) ∧ Row W g 0 (sortE l).toArray W') := ⟨fun g cap W1 hR hcap => by
    have := sort_calls W g 0 cap l.toArray W1 hR (by simp; omega)
    simpa using this⟩
  have H3 : Aside0 (∀ g cap W1, Row W g 0 (sortE l).toArray W1 → l.length ≤ cap →
      Calls Tryz.prog 61 #[.slice (some ⟨g, 0, none⟩) l.length cap] W1 fun e W' => e = .returned (.slice (some ⟨g, 0, none⟩) (ordE l).length cap) ∧ Row W g 0 (ordE l).toArray W') := ⟨fun g cap W1 hR hcap => by
    have := compact_calls W g 0 cap (sortE l).toArray W1 hR (by simp [sortE_len]; omega) (by simp [sortE_len]; omega)
    rw [List.size_toArray, sortE_len] at this
    rw [ordE, sortE_len]
    exact this⟩
  have H4 : Aside0 (∀ g cap W1, Row W g 0 (ordE l).toArray W1 → Calls Tryz.prog 46 #[.slice (some ⟨g, 0, none⟩) (ordE l).length cap] W1 fun e W' => Below W.heap.size W W' ∧ ∃ v', e = .returned v' ∧ EdR W.heap.size W' v' (ordE l)) := ⟨fun g cap W1 hR => by
    have he := hR.ed cap
    refine (clone_calls W1 _ (ordE l) (by simpa using he) (Nat.le_trans (ordE_len l) hn)).mono ?_
    rintro e W' ⟨hb', ⟨h0, p', c', rfl⟩ | ⟨g', cap', rfl, _, hR'⟩⟩
    · exact ⟨below_to hR.below hb', _, rfl, EdR.nil p' c' h0⟩
    · exact ⟨below_to hR.below hb', _, rfl, by simpa using (hR'.ed cap').mono hR.below.size⟩⟩
  clear h
  go_enter Tryz.func44, Tryz.ntmps44
  go_wp2_with fail
  go_at_call 46
  refine hc.mono ?_
  rintro e W1 ⟨hb, ⟨hl, p, c, rfl⟩ | ⟨g, cap, rfl, hcap, hR⟩⟩
  · have HB := Aside0.mk (And.intro hb hl)
    clear hb hl hc
    have hs := sort_none p c
    have hcp := compact_none p c
    go_wp2_with (first | (go_at_call 59; refine (hs _ _).mono ?_; rintro e W2 ⟨rfl, rfl⟩) | (go_at_call 61; refine (hcp _).mono ?_; rintro e W2 ⟨rfl, rfl⟩) | (go_at_call 46; refine (H.out _ _ _ HB.out.1 HB.out.2).mono ?_; rintro e W2 ⟨hb2, v', rfl, hv⟩; have HV := Aside0.mk (And.intro hb2 hv); clear hb2 hv))
    go_ret
    exact ⟨HV.out.1, v', rfl, HV.out.2⟩
  · have HR := Aside0.mk (And.intro hR hcap)
    clear hR hb hc hcap
    go_wp2_with (first | (go_at_call 59; refine (H2.out _ _ _ HR.out.1 HR.out.2).mono ?_; rintro e W2 ⟨rfl, hR2⟩; have HR2 := Aside0.mk hR2; clear hR2) | (go_at_call 61; refine (H3.out _ _ _ HR2.out HR.out.2).mono ?_; rintro e W2 ⟨rfl, hR3⟩; have HR3 := Aside0.mk hR3; clear hR3) | (go_at_call 46; refine (H4.out _ _ _ HR3.out).mono ?_; rintro e W2 ⟨hb2, v', rfl, hv⟩; have HV := Aside0.mk (And.intro hb2 hv); clear hb2 hv))
    go_ret
    exact ⟨HV.out.1, v', rfl, HV.out.2⟩

/-- The vulnerable edges, in order, each once. -/
def vulE (l : List Edge) : List Edge := ordE (l.filter fun e => e.v)

set_option maxHeartbeats 2000000 in
set_option maxRecDepth 100000 in
theorem vulnerable_calls (W : World) (v : Value) (l : List Edge) {n0 : Nat} (h : EdR n0 W v l) (hn : l.length ≤ 1048576) :
    Calls Tryz.prog 29 #[v] W fun e W' => Below W.heap.size W W' ∧ ∃ v', e = .returned v' ∧ EdR W.heap.size W' v' (vulE l) := by
  have hc := clone_calls W v l h hn
  have H : Aside0 (∀ W1 v1, Below W.heap.size W W1 → EdR 0 W1 v1 (l.filter fun e => e.v) → Calls Tryz.prog 44 #[v1] W1 fun e W' => Below W.heap.size W W' ∧ ∃ v', e = .returned v' ∧ EdR W.heap.size W' v' (vulE l)) := ⟨fun W1 v1 hb h1 =>
    (ordered_calls W1 v1 _ h1 (Nat.le_trans (List.length_filter_le _ _) hn)).mono fun e W' ⟨hb', v', he, hv⟩ => ⟨below_to hb hb', v', he, hv.mono hb.size⟩⟩
  have H2 : Aside0 (∀ g cap W1, Row W g 0 l.toArray W1 → l.length ≤ cap →
      Calls Tryz.prog 45 #[.slice (some ⟨g, 0, none⟩) l.length cap, .func (.func 47) #[] #[]] W1 fun e W' => e = .returned (.slice (some ⟨g, 0, none⟩) (l.filter fun e => e.v).length cap) ∧ Below W.heap.size W W' ∧ EdR 0 W' (.slice (some ⟨g, 0, none⟩) (l.filter fun e => e.v).length cap) (l.filter fun e => e.v)) := ⟨fun g cap W1 hR hcap => by
    refine (delete_calls W g 0 cap l.toArray W1 hR (by simp; omega) (by simpa using hcap)).mono ?_
    rintro e W' ⟨rfl, hR'⟩
    exact ⟨rfl, hR'.below, by simpa using (hR'.ed cap).mono (Nat.zero_le _)⟩⟩
  clear h
  go_enter Tryz.func29, Tryz.ntmps29
  go_wp2_with fail
  go_at_call 46
  refine hc.mono ?_
  rintro e W1 ⟨hb, ⟨hl, p, c, rfl⟩ | ⟨g, cap, rfl, hcap, hR⟩⟩
  · have HB := Aside0.mk (And.intro hb hl)
    clear hb hl hc
    have hs := delete_none p c
    have hv : Aside0 (EdR 0 W1 (.slice p 0 c) (l.filter fun e => e.v)) := ⟨EdR.nil p c (by rw [HB.out.2]; rfl)⟩
    go_wp2_with (first | (go_at_call 45; refine (hs _).mono ?_; rintro e W2 ⟨rfl, rfl⟩) | (go_at_call 44; refine (H.out _ _ HB.out.1 hv.out).mono ?_; rintro e W2 ⟨hb2, v', rfl, hv⟩; have HV := Aside0.mk (And.intro hb2 hv); clear hb2 hv))
    go_ret
    exact ⟨HV.out.1, v', rfl, HV.out.2⟩
  · have HR := Aside0.mk (And.intro hR hcap)
    clear hR hb hc hcap
    go_wp2_with (first | (go_at_call 45; refine (H2.out _ _ _ HR.out.1 HR.out.2).mono ?_; rintro e W2 ⟨rfl, hR2⟩; have HR2 := Aside0.mk hR2; clear hR2) | (go_at_call 44; refine (H.out _ _ HR2.out.1 HR2.out.2).mono ?_; rintro e W2 ⟨hb2, v', rfl, hv⟩; have HV := Aside0.mk (And.intro hb2 hv); clear hb2 hv))
    go_ret
    exact ⟨HV.out.1, v', rfl, HV.out.2⟩
end Go.Proofs.YtknpkfjaffhejaaGreat
