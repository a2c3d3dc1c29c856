/- WHAT IS PROVED: joined makes two inner nodes to one, or to two that have alike much; so it does with neighbours of any depth. -/
import Derived.Test.YtjabcdfbncglnaaLB6
import Derived.Test.YtjabcdfbncglnaaLB7
namespace Go.Proofs.Ytjabcdfbncglnaa
open Go.RowKit Go.Proofs.YtjabcdfbncglnaaW.PrintWords Go.Proofs.YtjabcdfbncglnaaW.PrintLast Go.Proofs.YtjabcdfbncglnaaW.PrintMore
open PTreeRanks (S59 k59 z59)
set_option linter.unusedVariables false
set_option linter.unusedSimpArgs false

set_option maxRecDepth 100000 in
set_option maxHeartbeats 16000000 in
theorem joined_inner {d : Nat} {ka kb : List ByteArray} {ca cb : List (T d)} {w : World} {ok : Nat → Prop} {bt order : Nat} {va vb : Value} (mid : ByteArray) (h0 : w.cell? ⟨bt, 0, none⟩ = some (.int .i64 order)) (ho3 : 3 ≤ order)
    (hMa : (NK (d + 1)).M w 0 ok ((ka, ca) : List ByteArray × List (T d)) [va]) (hMb : (NK (d + 1)).M w 0 ok ((kb, cb) : List ByteArray × List (T d)) [vb]) (hla : ca.length = ka.length + 1) (hlb : cb.length = kb.length + 1) (hl : ca.length + cb.length ≤ 900)
    (hsz : sizes ca + sizes cb ≤ 1099511627776) (hok : ∀ k, w.heap.size ≤ k → ok k) :
    Calls Try.prog 79 #[.pointer (some ⟨bt, 0, none⟩), va, .string mid, vb] w (SplitPost (d + 1) (halveT order (ka ++ [mid] ++ kb) (ca ++ cb)) ok w) := by
  obtain ⟨ba, kv, cv, rfl, hb, hh, hk, hv⟩ := inner_M.1 (M_off hMa)
  obtain ⟨bb, kv2, cv2, rfl, hb2, hh2, hk2, hv2⟩ := inner_M.1 (M_off hMb)
  obtain ⟨hko, hkb⟩ := SRow_own hk
  obtain ⟨vsa, hvo, hea, hvb⟩ := CRow_own hv
  obtain ⟨hko2, hkb2⟩ := SRow_own hk2
  obtain ⟨vsb, hvo2, heb, hvb2⟩ := CRow_own hv2
  obtain ⟨A1, c1, rfl, hkc, hkc2, _, hkA⟩ := own_cells hko
  obtain ⟨A2, c2, rfl, hvc, hvc2, hvl, hvA⟩ := own_cells hvo
  obtain ⟨B1, e1, rfl, hkc', hkc2', _, hkA'⟩ := own_cells hko2
  obtain ⟨B2, e2, rfl, hvc', hvc2', hvl', hvA'⟩ := own_cells hvo2
  have x0 : w.cell? ⟨ba, 0, none⟩ = some (.slice A1 ka.length c1) := (blk_cell hh 0).trans rfl
  have x1 : w.cell? ⟨ba, 1, none⟩ = some (.slice A2 ca.length c2) := (blk_cell hh 1).trans rfl
  have x2 : w.cell? ⟨bb, 0, none⟩ = some (.slice B1 kb.length e1) := (blk_cell hh2 0).trans rfl
  have x3 : w.cell? ⟨bb, 1, none⟩ = some (.slice B2 cb.length e2) := (blk_cell hh2 1).trans rfl
  have hone : (∀ u ∈ vsa, u.oneCell' = true) ∧ ∀ u ∈ vsb, u.oneCell' = true := by
    constructor
    · intro u hu
      obtain ⟨t, _, ht⟩ := hea.mem hu
      exact NK_one ((NK d).K_of_M ht)
    · intro u hu
      obtain ⟨t, _, ht⟩ := heb.mem hu
      exact NK_one ((NK d).K_of_M ht)
  have HOK : Aside0 (∀ k, w.heap.size < k → ok k ∧ k ≠ w.heap.size) := ⟨fun k h => ⟨hok k (Nat.le_of_lt h), by omega⟩⟩
  have JC1 : Aside0 (∀ (W : World) (vb mb : Nat), Below w.heap.size w W → W.heap[vb]? = some (.cells #[.slice A1 ka.length c1, .slice (some ⟨mb, 0, none⟩) 1 1, .slice B1 kb.length e1] 22 (0, 0)) → W.heap[mb]? = some (.cells #[.string mid] 9 (0, 0)) → Calls Try.prog 87 #[.slice (some ⟨vb, 0, none⟩) 3 3] W fun e w' => ∃ v', e = .returned v' ∧ w'.ownsRow W.heap.size 9 1 v' (ka.length + (1 + kb.length)) ((ka ++ [mid] ++ kb).map Value.string) ∧ Below W.heap.size W w') := ⟨fun W vb mb hW hh hm => by
    have := concat_str vb [(A1, c1, ka.map Value.string), (some ⟨mb, 0, none⟩, 1, [.string mid]), (B1, e1, kb.map Value.string)] W (fun k h => by
      match k, h with
      | 0, _ => simpa using (blk_cell hh 0).trans rfl
      | 1, _ => simpa using (blk_cell hh 1).trans rfl
      | 2, _ => simpa using (blk_cell hh 2).trans rfl
      | k + 3, h => simp at h; omega) (fun r hr => by
      simp at hr
      rcases hr with rfl | rfl | rfl
      · exact ⟨raw_rows hW (by simpa using hkA), fun u hu => by obtain ⟨y, _, rfl⟩ := List.mem_map.1 hu; rfl⟩
      · refine ⟨fun _ => ⟨⟨mb, 0, none⟩, rfl, fun j u hj => ?_⟩, fun u hu => by rw [List.mem_singleton.1 hu]; rfl⟩
        cases j with
        | zero => cases hj; exact (blk_cell hm 0).trans rfl
        | succ j => cases hj
      · exact ⟨raw_rows hW (by simpa using hkA'), fun u hu => by obtain ⟨y, _, rfl⟩ := List.mem_map.1 hu; rfl⟩) (by simp) (by simp; omega)
    simpa [Nat.add_comm, Nat.add_left_comm] using this⟩
  have JC2 : Aside0 (∀ (W : World) (vb : Nat), Below w.heap.size w W → W.heap[vb]? = some (.cells #[.slice A2 ca.length c2, .slice B2 cb.length e2] 79 (0, 0)) → Calls Try.prog 89 #[.slice (some ⟨vb, 0, none⟩) 2 2] W fun e w' => ∃ v', e = .returned v' ∧ w'.ownsRow W.heap.size 69 1 v' (ca.length + cb.length) (vsa ++ vsb) ∧ Below W.heap.size W w') := ⟨fun W vb hW hh => by
    have := concat_node vb [(A2, c2, vsa), (B2, e2, vsb)] W (fun k h => by
      match k, h with
      | 0, _ => simpa [hvl] using (blk_cell hh 0).trans rfl
      | 1, _ => simpa [hvl'] using (blk_cell hh 1).trans rfl
      | k + 2, h => simp at h; omega) (fun r hr => by
      simp at hr
      rcases hr with rfl | rfl
      · exact ⟨raw_rows hW (by simpa [hvl] using hvA), hone.1⟩
      · exact ⟨raw_rows hW (by simpa [hvl'] using hvA'), hone.2⟩) (by simp) (by simp [hvl, hvl']; omega)
    simpa [hvl, hvl'] using this⟩
  have HB0 := Aside0.mk h0
  have HH : Aside0 (∀ (W : World) (b1 b2 n1 n2 : Nat) (v1 v2 : Value), Below w.heap.size w W → w.heap.size < W.heap.size → w.heap.size < b1 → w.heap.size < b2 →
      W.ownsRow b1 9 1 v1 n1 ((ka ++ [mid] ++ kb).map Value.string) → W.ownsRow b2 69 1 v2 n2 (vsa ++ vsb) →
      Calls Try.prog 62 #[.pointer (some ⟨bt, 0, none⟩), v1, v2] W (SplitPost (d + 1) (halveT order (ka ++ [mid] ++ kb) (ca ++ cb)) (fun k => ok k ∧ k ≠ w.heap.size) W)) :=
    ⟨fun W b1 b2 n1 n2 v1 v2 hW hs h1 h2 hr1 hr2 => halve_calls (pw_cell_below hW HB0.out) (SRow_mk hr1 (fun k h => HOK.out k (by omega))) (CRow_mk hr2 (Elems_below (hea.append heb) hW) (fun k h => HOK.out k (by omega))) (fun k h => HOK.out k (by omega))
      (by rw [sizes_append]; exact hsz) (by omega) (by simp only [List.length_append, List.length_singleton]; omega) (by rw [List.length_append]; omega)⟩
  have HB1 := Aside0.mk (below_mk (Below.refl w.heap.size w) (.cells #[.nilIface, .string ⟨#[]⟩, .nilIface] 107))
  have HR1 : Aside0 (ResBox w.heap.size (w.alloc (.cells #[.nilIface, .string ⟨#[]⟩, .nilIface] 107))) := ⟨heap_alloc_new w _⟩
  have k1 := ta_inner
  have k2 := ta_inner_no
  have hxa : ka.length + (1 + kb.length) ≤ 1000 := by omega
  clear hh hh2 hk hv hk2 hv2 hko hvo hko2 hvo2 hkA hvA hkA' hvA' hMa hMb h0 hok hkb hvb hkb2 hvb2 hea heb hone hvl hvl' hla hlb hsz
  generalize halveT order (ka ++ [mid] ++ kb) (ca ++ cb) = sp at *
  have HB2 : Aside0 (Below w.heap.size w (w.alloc (.cells #[.nilIface, .string ⟨#[]⟩, .nilIface] 107)).drew) := ⟨below_drew HB1.out⟩
  have HR2 : Aside0 (ResBox w.heap.size (w.alloc (.cells #[.nilIface, .string ⟨#[]⟩, .nilIface] 107)).drew) := ⟨HR1.out⟩
  obtain ⟨s1, _ | ⟨mid2, s2⟩⟩ := sp
  · go_enter Try.func79, Try.ntmps79
    go_wp2
    obtain ⟨W0, hW0⟩ : ∃ W0, (w.alloc (.cells #[.nilIface, .string ⟨#[]⟩, .nilIface] 107)).drew = W0 := ⟨_, rfl⟩
    rw [hW0] at HB2 HR2
    have HSK : Aside0 (∀ W, W0.grownBy W (some w.heap.size) → (W.cell? ⟨ba, 0, none⟩ = some (.slice A1 ka.length c1) ∧ W.cell? ⟨ba, 1, none⟩ = some (.slice A2 ca.length c2) ∧ W.cell? ⟨bb, 0, none⟩ = some (.slice B1 kb.length e1) ∧ W.cell? ⟨bb, 1, none⟩ = some (.slice B2 cb.length e2)) ∧ W0.grownBy W (some w.heap.size)) := ⟨fun W hW => ⟨⟨pw_cell_below (gb_old HB2.out hW) x0, pw_cell_below (gb_old HB2.out hW) x1, pw_cell_below (gb_old HB2.out hW) x2, pw_cell_below (gb_old HB2.out hW) x3⟩, hW⟩⟩
    clear x0 x1 x2 x3
    have HW0 := Aside0.mk hW0
    clear hW0
    refine wp_region_held_drew (S := fun W' => (W'.cell? ⟨ba, 0, none⟩ = some (.slice A1 ka.length c1) ∧ W'.cell? ⟨ba, 1, none⟩ = some (.slice A2 ca.length c2) ∧ W'.cell? ⟨bb, 0, none⟩ = some (.slice B1 kb.length e1) ∧ W'.cell? ⟨bb, 1, none⟩ = some (.slice B2 cb.length e2)) ∧ W0.grownBy W' (some w.heap.size)) (by kernel_rfl) (HSK.out _ (by rw [HW0.out]; exact grownBy_refl _ _)) (fun hHeld => ?_)
    rw [HW0.out] at hHeld ⊢
    clear HW0
    refine wpAnyH_take (i := 0) (v := ?v0n) rfl (by kernel_rfl) (by kernel_rfl) (by kernel_rfl) (fun _ _ _ h => h) (Or.inl ⟨by rfl, fun wq hSw => ?y0n⟩) (by assumption) ?r0n
    case y0n => ((try dsimp only at hSw); go_simp; try with_reducible rfl)
    try simp only [Act.put, List.setIfInBounds_toArray, List.set_cons_zero, List.set_cons_succ, List.getElem_toArray, List.getElem_cons_zero, List.getElem_cons_succ]
    refine wpAnyH_take (i := 1) (v := ?v1n) rfl (by kernel_rfl) (by kernel_rfl) (by kernel_rfl) (fun _ _ _ h => h) (Or.inl ⟨by rfl, fun wq hSw => ?y1n⟩) (by assumption) ?r1n
    case y1n => ((try dsimp only at hSw); go_simp; try with_reducible rfl)
    try simp only [Act.put, List.setIfInBounds_toArray, List.set_cons_zero, List.set_cons_succ, List.getElem_toArray, List.getElem_cons_zero, List.getElem_cons_succ]
    refine wpAnyH_take (i := 2) (v := ?v2n) rfl (by kernel_rfl) (by kernel_rfl) (by kernel_rfl) (fun _ _ _ h => h) (Or.inl ⟨by rfl, fun wq hSw => ?y2n⟩) (by assumption) ?r2n
    case y2n => ((try dsimp only at hSw); go_simp; try with_reducible rfl)
    try simp only [Act.put, List.setIfInBounds_toArray, List.set_cons_zero, List.set_cons_succ, List.getElem_toArray, List.getElem_cons_zero, List.getElem_cons_succ]
    refine wpAnyH_take (i := 3) (v := ?v3n) rfl (by kernel_rfl) (by kernel_rfl) (by kernel_rfl) (fun _ _ _ h => h) (Or.inl ⟨by rfl, fun wq hSw => ?y3n⟩) (by assumption) ?r3n
    case y3n => ((try dsimp only at hSw); go_simp; try with_reducible rfl)
    try simp only [Act.put, List.setIfInBounds_toArray, List.set_cons_zero, List.set_cons_succ, List.getElem_toArray, List.getElem_cons_zero, List.getElem_cons_succ]
    refine wpAnyH_take (i := 4) (v := ?v4n) rfl (by kernel_rfl) (by kernel_rfl) (by kernel_rfl) (fun _ _ _ h => h) (Or.inl ⟨by rfl, fun wq hSw => ?y4n⟩) (by assumption) ?r4n
    case y4n => ((try dsimp only at hSw); go_simp; try with_reducible rfl)
    try simp only [Act.put, List.setIfInBounds_toArray, List.set_cons_zero, List.set_cons_succ, List.getElem_toArray, List.getElem_cons_zero, List.getElem_cons_succ]
    refine wpAnyH_take (i := 5) (v := ?v5n) rfl (by kernel_rfl) (by kernel_rfl) (by kernel_rfl) (fun _ _ _ h => h) (Or.inl ⟨by rfl, fun wq hSw => ?y5n⟩) (by assumption) ?r5n
    case y5n => ((try dsimp only at hSw); go_simp; try with_reducible rfl)
    try simp only [Act.put, List.setIfInBounds_toArray, List.set_cons_zero, List.set_cons_succ, List.getElem_toArray, List.getElem_cons_zero, List.getElem_cons_succ]
    refine wpAnyH_take (i := 7) (v := ?v7n) rfl (by kernel_rfl) (by kernel_rfl) (by kernel_rfl) (fun _ _ _ h => h) (Or.inl ⟨by rfl, fun wq hSw => ?y7n⟩) (by assumption) ?r7n
    case y7n => ((try dsimp only at hSw); go_simp; try with_reducible rfl)
    try simp only [Act.put, List.setIfInBounds_toArray, List.set_cons_zero, List.set_cons_succ, List.getElem_toArray, List.getElem_cons_zero, List.getElem_cons_succ]
    refine wpAnyH_take (i := 8) (v := ?v8n) rfl (by kernel_rfl) (by kernel_rfl) (by kernel_rfl) (fun _ _ _ h => h) (Or.inl ⟨by rfl, fun wq hSw => ?y8n⟩) (by assumption) ?r8n
    case y8n => ((try dsimp only at hSw); go_simp; try with_reducible rfl)
    try simp only [Act.put, List.setIfInBounds_toArray, List.set_cons_zero, List.set_cons_succ, List.getElem_toArray, List.getElem_cons_zero, List.getElem_cons_succ]
    refine wpAnyH_take (i := 9) (v := ?v9n) rfl (by kernel_rfl) (by kernel_rfl) (by kernel_rfl) (fun _ _ _ h => h) (Or.inl ⟨by rfl, fun wq hSw => ?y9n⟩) (by assumption) ?r9n
    case y9n => ((try dsimp only at hSw); go_simp; try with_reducible rfl)
    try simp only [Act.put, List.setIfInBounds_toArray, List.set_cons_zero, List.set_cons_succ, List.getElem_toArray, List.getElem_cons_zero, List.getElem_cons_succ]
    refine wpAnyH_take (i := 10) (v := ?v10n) rfl (by kernel_rfl) (by kernel_rfl) (by kernel_rfl) (fun _ _ _ h => h) (Or.inl ⟨by rfl, fun wq hSw => ?y10n⟩) (by assumption) ?r10n
    case y10n => ((try dsimp only at hSw); go_simp; try with_reducible rfl)
    try simp only [Act.put, List.setIfInBounds_toArray, List.set_cons_zero, List.set_cons_succ, List.getElem_toArray, List.getElem_cons_zero, List.getElem_cons_succ]
    refine wpAnyH_take (i := 13) (v := ?v13n) rfl (by kernel_rfl) (by kernel_rfl) (by kernel_rfl) (fun _ _ _ h => h) (Or.inl ⟨by rfl, fun wq hSw => ?y13n⟩) (by assumption) ?r13n
    case y13n => ((try dsimp only at hSw); go_simp; try with_reducible rfl)
    try simp only [Act.put, List.setIfInBounds_toArray, List.set_cons_zero, List.set_cons_succ, List.getElem_toArray, List.getElem_cons_zero, List.getElem_cons_succ]
    refine wpAnyH_take (i := 14) (v := ?v14n) rfl (by kernel_rfl) (by kernel_rfl) (by kernel_rfl) (fun _ _ _ h => h) (Or.inl ⟨by rfl, fun wq hSw => ?y14n⟩) (by assumption) ?r14n
    case y14n => ((try dsimp only at hSw); go_simp; try with_reducible rfl)
    try simp only [Act.put, List.setIfInBounds_toArray, List.set_cons_zero, List.set_cons_succ, List.getElem_toArray, List.getElem_cons_zero, List.getElem_cons_succ]
    refine wpAnyH_take (i := 15) (v := ?v15n) rfl (by kernel_rfl) (by kernel_rfl) (by kernel_rfl) (fun _ _ _ h => h) (Or.inl ⟨by rfl, fun wq hSw => ?y15n⟩) (by assumption) ?r15n
    case y15n => ((try dsimp only at hSw); go_simp; try with_reducible rfl)
    try simp only [Act.put, List.setIfInBounds_toArray, List.set_cons_zero, List.set_cons_succ, List.getElem_toArray, List.getElem_cons_zero, List.getElem_cons_succ]
    refine wpAnyH_take (i := 16) (v := ?v16n) rfl (by kernel_rfl) (by kernel_rfl) (by kernel_rfl) (fun _ _ _ h => h) (Or.inl ⟨by rfl, fun wq hSw => ?y16n⟩) (by assumption) ?r16n
    case y16n => ((try dsimp only at hSw); go_simp; try with_reducible rfl)
    try simp only [Act.put, List.setIfInBounds_toArray, List.set_cons_zero, List.set_cons_succ, List.getElem_toArray, List.getElem_cons_zero, List.getElem_cons_succ]
    refine wpAnyH_take (i := 17) (v := ?v17n) rfl (by kernel_rfl) (by kernel_rfl) (by kernel_rfl) (fun _ _ _ h => h) (Or.inl ⟨by rfl, fun wq hSw => ?y17n⟩) (by assumption) ?r17n
    case y17n => ((try dsimp only at hSw); go_simp; try with_reducible rfl)
    try simp only [Act.put, List.setIfInBounds_toArray, List.set_cons_zero, List.set_cons_succ, List.getElem_toArray, List.getElem_cons_zero, List.getElem_cons_succ]
    refine wpAnyH_take (i := 18) (v := ?v18n) rfl (by kernel_rfl) (by kernel_rfl) (by kernel_rfl) (fun _ _ _ h => h) (Or.inl ⟨by rfl, fun wq hSw => ?y18n⟩) (by assumption) ?r18n
    case y18n => ((try dsimp only at hSw); go_simp; try with_reducible rfl)
    try simp only [Act.put, List.setIfInBounds_toArray, List.set_cons_zero, List.set_cons_succ, List.getElem_toArray, List.getElem_cons_zero, List.getElem_cons_succ]
    refine wpAnyH_take (i := 19) (v := ?v19n) rfl (by kernel_rfl) (by kernel_rfl) (by kernel_rfl) (fun _ _ _ h => h) (Or.inl ⟨by rfl, fun wq hSw => ?y19n⟩) (by assumption) ?r19n
    case y19n => ((try dsimp only at hSw); go_simp; try with_reducible rfl)
    try simp only [Act.put, List.setIfInBounds_toArray, List.set_cons_zero, List.set_cons_succ, List.getElem_toArray, List.getElem_cons_zero, List.getElem_cons_succ]
    refine wpAnyH_take (i := 20) (v := ?v20n) rfl (by kernel_rfl) (by kernel_rfl) (by kernel_rfl) (fun _ _ _ h => h) (Or.inl ⟨by rfl, fun wq hSw => ?y20n⟩) (by assumption) ?r20n
    case y20n => ((try dsimp only at hSw); go_simp; try with_reducible rfl)
    try simp only [Act.put, List.setIfInBounds_toArray, List.set_cons_zero, List.set_cons_succ, List.getElem_toArray, List.getElem_cons_zero, List.getElem_cons_succ]
    have HGR := Aside0.mk (grownBy_refl W0 (some w.heap.size))
    refine wpAnyH_ready (rs := [6, 21]) (by kernel_rfl) (by simp) ?_
    refine AllReadyH.cons (by rfl) (fun K hK => ?_) ?_
    · rw [if_pos (by rfl)]
      go_wp2_with fail
      have HN1 := Aside0.mk (heap_alloc_new W0 (.cells #[.string mid] 9))
      have hb1 := Aside0.mk (below_mk (Below.refl W0.heap.size W0) (.cells #[.string mid] 9))
      have HG1 := Aside0.mk (gb_below hb1.out HGR.out)
      have HR1 : Aside0 (ResBox w.heap.size (W0.alloc (.cells #[.string mid] 9))) := ⟨(hb1.out.block _ (blk_lt HR2.out)).trans HR2.out⟩
      refine hK.out _ _ (HSK.out _ HG1.out) (fun hHeld2 => ?_)
      clear hK hHeld K
      have hHeld := hHeld2
      clear hHeld2
      try simp only [Act.put, List.setIfInBounds_toArray, List.set_cons_zero, List.set_cons_succ, List.getElem_toArray, List.getElem_cons_zero, List.getElem_cons_succ]
      obtain ⟨s1, es1⟩ : ∃ s, s = W0.heap.size := ⟨_, rfl⟩
      rw [← es1] at HN1 ⊢
      clear es1 hb1
      generalize W0.alloc (.cells #[.string mid] 9) = V1 at *
      refine wpAnyH_ready (rs := [11, 21]) (by kernel_rfl) (by simp) ?_
      refine AllReadyH.cons (by rfl) (fun K hK => ?_) ?_
      · rw [if_pos (by rfl)]
        go_wp2_with fail
        have HN2 := Aside0.mk (heap_alloc_new V1 (.cells #[.slice A1 ka.length c1, .slice (some ⟨s1, 0, none⟩) 1 1, .slice B1 kb.length e1] 22))
        have hb2 := Aside0.mk (below_mk (Below.refl V1.heap.size V1) (.cells #[.slice A1 ka.length c1, .slice (some ⟨s1, 0, none⟩) 1 1, .slice B1 kb.length e1] 22))
        have HN12 := Aside0.mk ((hb2.out.block _ (blk_lt HN1.out)).trans HN1.out)
        have HG2 := Aside0.mk (gb_below hb2.out HG1.out)
        have HR2 : Aside0 (ResBox w.heap.size (V1.alloc (.cells #[.slice A1 ka.length c1, .slice (some ⟨s1, 0, none⟩) 1 1, .slice B1 kb.length e1] 22))) := ⟨(hb2.out.block _ (blk_lt HR1.out)).trans HR1.out⟩
        refine hK.out _ _ (HSK.out _ HG2.out) (fun hHeld2 => ?_)
        clear hK hHeld K
        have hHeld := hHeld2
        clear hHeld2
        try simp only [Act.put, List.setIfInBounds_toArray, List.set_cons_zero, List.set_cons_succ, List.getElem_toArray, List.getElem_cons_zero, List.getElem_cons_succ]
        obtain ⟨s2, es2⟩ : ∃ s, s = V1.heap.size := ⟨_, rfl⟩
        rw [← es2] at HN2 ⊢
        clear es2 hb2
        generalize V1.alloc (.cells #[.slice A1 ka.length c1, .slice (some ⟨s1, 0, none⟩) 1 1, .slice B1 kb.length e1] 22) = V2 at *
        refine wpAnyH_ready (rs := [12, 21]) (by kernel_rfl) (by simp) ?_
        refine AllReadyH.cons (by rfl) (fun K hK => ?_) ?_
        · rw [if_pos (by rfl)]
          go_wp2_with fail
          refine (JC1.out _ _ _ (gb_old HB2.out HG2.out) HN2.out HN12.out).mono ?_
          rintro e V3 ⟨v3, rfl, ho3, hb3⟩
          obtain ⟨AA3, dd3, rfl, _, hm3, _, _⟩ := own_cells ho3
          have hl3 : w.heap.size < V2.heap.size := blk_lt HR2.out
          have HN123 := Aside0.mk ((hb3.block _ (blk_lt HN12.out)).trans HN12.out)
          have HN23 := Aside0.mk ((hb3.block _ (blk_lt HN2.out)).trans HN2.out)
          have HG3 := Aside0.mk (gb_below hb3 HG2.out)
          have HR3 : Aside0 (ResBox w.heap.size V3) := ⟨(hb3.block _ (blk_lt HR2.out)).trans HR2.out⟩
          have HO3 := Aside0.mk ho3
          clear ho3 hb3
          refine hK.out _ _ (HSK.out _ HG3.out) (fun hHeld2 => ?_)
          clear hK hHeld K
          have hHeld := hHeld2
          clear hHeld2
          try simp only [Act.put, List.setIfInBounds_toArray, List.set_cons_zero, List.set_cons_succ, List.getElem_toArray, List.getElem_cons_zero, List.getElem_cons_succ]
          refine wpAnyH_ready (rs := [21]) (by kernel_rfl) (by simp) ?_
          refine AllReadyH.cons (by rfl) (fun K hK => ?_) AllReadyH.nil
          rw [if_pos (by rfl)]
          go_wp2_with fail
          have HN4 := Aside0.mk (heap_alloc_new V3 (.cells #[.slice A2 ca.length c2, .slice B2 cb.length e2] 79))
          have hb4 := Aside0.mk (below_mk (Below.refl V3.heap.size V3) (.cells #[.slice A2 ca.length c2, .slice B2 cb.length e2] 79))
          have HN1234 := Aside0.mk ((hb4.out.block _ (blk_lt HN123.out)).trans HN123.out)
          have HN234 := Aside0.mk ((hb4.out.block _ (blk_lt HN23.out)).trans HN23.out)
          have HO34 := Aside0.mk (pw_own_below HO3.out hb4.out)
          have HG4 := Aside0.mk (gb_below hb4.out HG3.out)
          have HR4 : Aside0 (ResBox w.heap.size (V3.alloc (.cells #[.slice A2 ca.length c2, .slice B2 cb.length e2] 79))) := ⟨(hb4.out.block _ (blk_lt HR3.out)).trans HR3.out⟩
          refine hK.out _ _ (HSK.out _ HG4.out) (fun hHeld2 => ?_)
          clear hK hHeld K
          have hHeld := hHeld2
          clear hHeld2
          try simp only [Act.put, List.setIfInBounds_toArray, List.set_cons_zero, List.set_cons_succ, List.getElem_toArray, List.getElem_cons_zero, List.getElem_cons_succ]
          obtain ⟨s4, es4⟩ : ∃ s, s = V3.heap.size := ⟨_, rfl⟩
          rw [← es4] at HN4 ⊢
          clear es4 hb4
          generalize V3.alloc (.cells #[.slice A2 ca.length c2, .slice B2 cb.length e2] 79) = V4 at *
          refine wpAnyH_ready (rs := [22]) (by kernel_rfl) (by simp) ?_
          refine AllReadyH.cons (by rfl) (fun K hK => ?_) AllReadyH.nil
          rw [if_pos (by rfl)]
          go_wp2_with fail
          refine (JC2.out _ _ (gb_old HB2.out HG4.out) HN4.out).mono ?_
          rintro e V5 ⟨v5, rfl, ho5, hb5⟩
          obtain ⟨AA5, dd5, rfl, _, hm5, _, _⟩ := own_cells ho5
          have hl5 : w.heap.size < V4.heap.size := blk_lt HR4.out
          have HN12345 := Aside0.mk ((hb5.block _ (blk_lt HN1234.out)).trans HN1234.out)
          have HN2345 := Aside0.mk ((hb5.block _ (blk_lt HN234.out)).trans HN234.out)
          have HN45 := Aside0.mk ((hb5.block _ (blk_lt HN4.out)).trans HN4.out)
          have HO345 := Aside0.mk (pw_own_below HO34.out hb5)
          have HG5 := Aside0.mk (gb_below hb5 HG4.out)
          have HR5 : Aside0 (ResBox w.heap.size V5) := ⟨(hb5.block _ (blk_lt HR4.out)).trans HR4.out⟩
          have HO5 := Aside0.mk ho5
          clear ho5 hb5
          refine hK.out _ _ (HSK.out _ HG5.out) (fun hHeld2 => ?_)
          clear hK hHeld K
          have hHeld := hHeld2
          clear hHeld2
          try simp only [Act.put, List.setIfInBounds_toArray, List.set_cons_zero, List.set_cons_succ, List.getElem_toArray, List.getElem_cons_zero, List.getElem_cons_succ]
          refine wpAnyH_ready (rs := [23]) (by kernel_rfl) (by simp) ?_
          refine AllReadyH.cons (by rfl) (fun K hK => ?_) AllReadyH.nil
          rw [if_pos (by rfl)]
          go_wp2_with fail
          refine (HH.out _ _ _ _ _ _ _ (gb_old HB2.out HG5.out) (blk_lt HR5.out) hl3 hl5 HO345.out HO5.out).mono ?_
          rintro e w5 hP
          obtain ⟨ty, bx, rfl, hb5, hfin⟩ := split_none hP (gb_old HB2.out HG5.out)
          have HG5 := Aside0.mk (gb_below hb5 HG5.out)
          obtain ⟨⟨q0, q1, q2⟩, p0, p1, p2⟩ := ResBox.cells ((hb5.block _ (blk_lt HR5.out)).trans HR5.out)
          have HFIN := Aside0.mk hfin
          clear hfin hP hb5
          refine hK.out _ _ (HSK.out _ HG5.out) (fun hHeld2 => ?_)
          clear hK hHeld K
          have hHeld := hHeld2
          clear hHeld2
          try simp only [Act.put, List.setIfInBounds_toArray, List.set_cons_zero, List.set_cons_succ, List.getElem_toArray, List.getElem_cons_zero, List.getElem_cons_succ]
          refine wpAnyH_ready (rs := [24]) (by kernel_rfl) (by simp) ?_
          refine AllReadyH.cons (by rfl) (fun K hK => ?_) AllReadyH.nil
          rw [if_pos (by rfl)]
          go_wp2_with fail
          refine hK.out _ _ (HSK.out _ (gb_set (gb_set (gb_set HG5.out _ _) _ _) _ _)) (fun hHeld2 => ?_)
          clear hK hHeld hHeld2 K
          try simp only [Act.put, List.setIfInBounds_toArray, List.set_cons_zero, List.set_cons_succ, List.getElem_toArray, List.getElem_cons_zero, List.getElem_cons_succ]
          refine wpAnyH_done (by kernel_rfl) ?_ _
          go_wp2
          refine bodyPost_ret (v := .agg #[.iface ty (.pointer (some ⟨bx, 0, none⟩)), .string ⟨#[]⟩, .nilIface]) (by simp [results, Try.results79, go_sem, q0, q1, q2]) rfl ?_
          exact HFIN.out
        refine AllReadyH.cons (by rfl) (fun K hK => ?_) AllReadyH.nil
        rw [if_pos (by rfl)]
        go_wp2_with fail
        have HN6 := Aside0.mk (heap_alloc_new V2 (.cells #[.slice A2 ca.length c2, .slice B2 cb.length e2] 79))
        have hb6 := Aside0.mk (below_mk (Below.refl V2.heap.size V2) (.cells #[.slice A2 ca.length c2, .slice B2 cb.length e2] 79))
        have HN126 := Aside0.mk ((hb6.out.block _ (blk_lt HN12.out)).trans HN12.out)
        have HN26 := Aside0.mk ((hb6.out.block _ (blk_lt HN2.out)).trans HN2.out)
        have HG6 := Aside0.mk (gb_below hb6.out HG2.out)
        have HR6 : Aside0 (ResBox w.heap.size (V2.alloc (.cells #[.slice A2 ca.length c2, .slice B2 cb.length e2] 79))) := ⟨(hb6.out.block _ (blk_lt HR2.out)).trans HR2.out⟩
        refine hK.out _ _ (HSK.out _ HG6.out) (fun hHeld2 => ?_)
        clear hK hHeld K
        have hHeld := hHeld2
        clear hHeld2
        try simp only [Act.put, List.setIfInBounds_toArray, List.set_cons_zero, List.set_cons_succ, List.getElem_toArray, List.getElem_cons_zero, List.getElem_cons_succ]
        obtain ⟨s6, es6⟩ : ∃ s, s = V2.heap.size := ⟨_, rfl⟩
        rw [← es6] at HN6 ⊢
        clear es6 hb6
        generalize V2.alloc (.cells #[.slice A2 ca.length c2, .slice B2 cb.length e2] 79) = V6 at *
        refine wpAnyH_ready (rs := [12]) (by kernel_rfl) (by simp) ?_
        refine AllReadyH.cons (by rfl) (fun K hK => ?_) AllReadyH.nil
        rw [if_pos (by rfl)]
        go_wp2_with fail
        refine (JC1.out _ _ _ (gb_old HB2.out HG6.out) HN26.out HN126.out).mono ?_
        rintro e V7 ⟨v7, rfl, ho7, hb7⟩
        obtain ⟨AA7, dd7, rfl, _, hm7, _, _⟩ := own_cells ho7
        have hl7 : w.heap.size < V6.heap.size := blk_lt HR6.out
        have HN1267 := Aside0.mk ((hb7.block _ (blk_lt HN126.out)).trans HN126.out)
        have HN267 := Aside0.mk ((hb7.block _ (blk_lt HN26.out)).trans HN26.out)
        have HN67 := Aside0.mk ((hb7.block _ (blk_lt HN6.out)).trans HN6.out)
        have HG7 := Aside0.mk (gb_below hb7 HG6.out)
        have HR7 : Aside0 (ResBox w.heap.size V7) := ⟨(hb7.block _ (blk_lt HR6.out)).trans HR6.out⟩
        have HO7 := Aside0.mk ho7
        clear ho7 hb7
        refine hK.out _ _ (HSK.out _ HG7.out) (fun hHeld2 => ?_)
        clear hK hHeld K
        have hHeld := hHeld2
        clear hHeld2
        try simp only [Act.put, List.setIfInBounds_toArray, List.set_cons_zero, List.set_cons_succ, List.getElem_toArray, List.getElem_cons_zero, List.getElem_cons_succ]
        refine wpAnyH_ready (rs := [22]) (by kernel_rfl) (by simp) ?_
        refine AllReadyH.cons (by rfl) (fun K hK => ?_) AllReadyH.nil
        rw [if_pos (by rfl)]
        go_wp2_with fail
        refine (JC2.out _ _ (gb_old HB2.out HG7.out) HN67.out).mono ?_
        rintro e V8 ⟨v8, rfl, ho8, hb8⟩
        obtain ⟨AA8, dd8, rfl, _, hm8, _, _⟩ := own_cells ho8
        have hl8 : w.heap.size < V7.heap.size := blk_lt HR7.out
        have HN12678 := Aside0.mk ((hb8.block _ (blk_lt HN1267.out)).trans HN1267.out)
        have HN2678 := Aside0.mk ((hb8.block _ (blk_lt HN267.out)).trans HN267.out)
        have HN678 := Aside0.mk ((hb8.block _ (blk_lt HN67.out)).trans HN67.out)
        have HO78 := Aside0.mk (pw_own_below HO7.out hb8)
        have HG8 := Aside0.mk (gb_below hb8 HG7.out)
        have HR8 : Aside0 (ResBox w.heap.size V8) := ⟨(hb8.block _ (blk_lt HR7.out)).trans HR7.out⟩
        have HO8 := Aside0.mk ho8
        clear ho8 hb8
        refine hK.out _ _ (HSK.out _ HG8.out) (fun hHeld2 => ?_)
        clear hK hHeld K
        have hHeld := hHeld2
        clear hHeld2
        try simp only [Act.put, List.setIfInBounds_toArray, List.set_cons_zero, List.set_cons_succ, List.getElem_toArray, List.getElem_cons_zero, List.getElem_cons_succ]
        refine wpAnyH_ready (rs := [23]) (by kernel_rfl) (by simp) ?_
        refine AllReadyH.cons (by rfl) (fun K hK => ?_) AllReadyH.nil
        rw [if_pos (by rfl)]
        go_wp2_with fail
        refine (HH.out _ _ _ _ _ _ _ (gb_old HB2.out HG8.out) (blk_lt HR8.out) hl7 hl8 HO78.out HO8.out).mono ?_
        rintro e w5 hP
        obtain ⟨ty, bx, rfl, hb5, hfin⟩ := split_none hP (gb_old HB2.out HG8.out)
        have HG5 := Aside0.mk (gb_below hb5 HG8.out)
        obtain ⟨⟨q0, q1, q2⟩, p0, p1, p2⟩ := ResBox.cells ((hb5.block _ (blk_lt HR8.out)).trans HR8.out)
        have HFIN := Aside0.mk hfin
        clear hfin hP hb5
        refine hK.out _ _ (HSK.out _ HG5.out) (fun hHeld2 => ?_)
        clear hK hHeld K
        have hHeld := hHeld2
        clear hHeld2
        try simp only [Act.put, List.setIfInBounds_toArray, List.set_cons_zero, List.set_cons_succ, List.getElem_toArray, List.getElem_cons_zero, List.getElem_cons_succ]
        refine wpAnyH_ready (rs := [24]) (by kernel_rfl) (by simp) ?_
        refine AllReadyH.cons (by rfl) (fun K hK => ?_) AllReadyH.nil
        rw [if_pos (by rfl)]
        go_wp2_with fail
        refine hK.out _ _ (HSK.out _ (gb_set (gb_set (gb_set HG5.out _ _) _ _) _ _)) (fun hHeld2 => ?_)
        clear hK hHeld hHeld2 K
        try simp only [Act.put, List.setIfInBounds_toArray, List.set_cons_zero, List.set_cons_succ, List.getElem_toArray, List.getElem_cons_zero, List.getElem_cons_succ]
        refine wpAnyH_done (by kernel_rfl) ?_ _
        go_wp2
        refine bodyPost_ret (v := .agg #[.iface ty (.pointer (some ⟨bx, 0, none⟩)), .string ⟨#[]⟩, .nilIface]) (by simp [results, Try.results79, go_sem, q0, q1, q2]) rfl ?_
        exact HFIN.out
      refine AllReadyH.cons (by rfl) (fun K hK => ?_) AllReadyH.nil
      rw [if_pos (by rfl)]
      go_wp2_with fail
      have HN9 := Aside0.mk (heap_alloc_new V1 (.cells #[.slice A2 ca.length c2, .slice B2 cb.length e2] 79))
      have hb9 := Aside0.mk (below_mk (Below.refl V1.heap.size V1) (.cells #[.slice A2 ca.length c2, .slice B2 cb.length e2] 79))
      have HN19 := Aside0.mk ((hb9.out.block _ (blk_lt HN1.out)).trans HN1.out)
      have HG9 := Aside0.mk (gb_below hb9.out HG1.out)
      have HR9 : Aside0 (ResBox w.heap.size (V1.alloc (.cells #[.slice A2 ca.length c2, .slice B2 cb.length e2] 79))) := ⟨(hb9.out.block _ (blk_lt HR1.out)).trans HR1.out⟩
      refine hK.out _ _ (HSK.out _ HG9.out) (fun hHeld2 => ?_)
      clear hK hHeld K
      have hHeld := hHeld2
      clear hHeld2
      try simp only [Act.put, List.setIfInBounds_toArray, List.set_cons_zero, List.set_cons_succ, List.getElem_toArray, List.getElem_cons_zero, List.getElem_cons_succ]
      obtain ⟨s9, es9⟩ : ∃ s, s = V1.heap.size := ⟨_, rfl⟩
      rw [← es9] at HN9 ⊢
      clear es9 hb9
      generalize V1.alloc (.cells #[.slice A2 ca.length c2, .slice B2 cb.length e2] 79) = V9 at *
      refine wpAnyH_ready (rs := [11]) (by kernel_rfl) (by simp) ?_
      refine AllReadyH.cons (by rfl) (fun K hK => ?_) AllReadyH.nil
      rw [if_pos (by rfl)]
      go_wp2_with fail
      have HN10 := Aside0.mk (heap_alloc_new V9 (.cells #[.slice A1 ka.length c1, .slice (some ⟨s1, 0, none⟩) 1 1, .slice B1 kb.length e1] 22))
      have hb10 := Aside0.mk (below_mk (Below.refl V9.heap.size V9) (.cells #[.slice A1 ka.length c1, .slice (some ⟨s1, 0, none⟩) 1 1, .slice B1 kb.length e1] 22))
      have HN1910 := Aside0.mk ((hb10.out.block _ (blk_lt HN19.out)).trans HN19.out)
      have HN910 := Aside0.mk ((hb10.out.block _ (blk_lt HN9.out)).trans HN9.out)
      have HG10 := Aside0.mk (gb_below hb10.out HG9.out)
      have HR10 : Aside0 (ResBox w.heap.size (V9.alloc (.cells #[.slice A1 ka.length c1, .slice (some ⟨s1, 0, none⟩) 1 1, .slice B1 kb.length e1] 22))) := ⟨(hb10.out.block _ (blk_lt HR9.out)).trans HR9.out⟩
      refine hK.out _ _ (HSK.out _ HG10.out) (fun hHeld2 => ?_)
      clear hK hHeld K
      have hHeld := hHeld2
      clear hHeld2
      try simp only [Act.put, List.setIfInBounds_toArray, List.set_cons_zero, List.set_cons_succ, List.getElem_toArray, List.getElem_cons_zero, List.getElem_cons_succ]
      obtain ⟨s10, es10⟩ : ∃ s, s = V9.heap.size := ⟨_, rfl⟩
      rw [← es10] at HN10 ⊢
      clear es10 hb10
      generalize V9.alloc (.cells #[.slice A1 ka.length c1, .slice (some ⟨s1, 0, none⟩) 1 1, .slice B1 kb.length e1] 22) = V10 at *
      refine wpAnyH_ready (rs := [12]) (by kernel_rfl) (by simp) ?_
      refine AllReadyH.cons (by rfl) (fun K hK => ?_) AllReadyH.nil
      rw [if_pos (by rfl)]
      go_wp2_with fail
      refine (JC1.out _ _ _ (gb_old HB2.out HG10.out) HN10.out HN1910.out).mono ?_
      rintro e V11 ⟨v11, rfl, ho11, hb11⟩
      obtain ⟨AA11, dd11, rfl, _, hm11, _, _⟩ := own_cells ho11
      have hl11 : w.heap.size < V10.heap.size := blk_lt HR10.out
      have HN191011 := Aside0.mk ((hb11.block _ (blk_lt HN1910.out)).trans HN1910.out)
      have HN91011 := Aside0.mk ((hb11.block _ (blk_lt HN910.out)).trans HN910.out)
      have HN1011 := Aside0.mk ((hb11.block _ (blk_lt HN10.out)).trans HN10.out)
      have HG11 := Aside0.mk (gb_below hb11 HG10.out)
      have HR11 : Aside0 (ResBox w.heap.size V11) := ⟨(hb11.block _ (blk_lt HR10.out)).trans HR10.out⟩
      have HO11 := Aside0.mk ho11
      clear ho11 hb11
      refine hK.out _ _ (HSK.out _ HG11.out) (fun hHeld2 => ?_)
      clear hK hHeld K
      have hHeld := hHeld2
      clear hHeld2
      try simp only [Act.put, List.setIfInBounds_toArray, List.set_cons_zero, List.set_cons_succ, List.getElem_toArray, List.getElem_cons_zero, List.getElem_cons_succ]
      refine wpAnyH_ready (rs := [22]) (by kernel_rfl) (by simp) ?_
      refine AllReadyH.cons (by rfl) (fun K hK => ?_) AllReadyH.nil
      rw [if_pos (by rfl)]
      go_wp2_with fail
      refine (JC2.out _ _ (gb_old HB2.out HG11.out) HN91011.out).mono ?_
      rintro e V12 ⟨v12, rfl, ho12, hb12⟩
      obtain ⟨AA12, dd12, rfl, _, hm12, _, _⟩ := own_cells ho12
      have hl12 : w.heap.size < V11.heap.size := blk_lt HR11.out
      have HN19101112 := Aside0.mk ((hb12.block _ (blk_lt HN191011.out)).trans HN191011.out)
      have HN9101112 := Aside0.mk ((hb12.block _ (blk_lt HN91011.out)).trans HN91011.out)
      have HN101112 := Aside0.mk ((hb12.block _ (blk_lt HN1011.out)).trans HN1011.out)
      have HO1112 := Aside0.mk (pw_own_below HO11.out hb12)
      have HG12 := Aside0.mk (gb_below hb12 HG11.out)
      have HR12 : Aside0 (ResBox w.heap.size V12) := ⟨(hb12.block _ (blk_lt HR11.out)).trans HR11.out⟩
      have HO12 := Aside0.mk ho12
      clear ho12 hb12
      refine hK.out _ _ (HSK.out _ HG12.out) (fun hHeld2 => ?_)
      clear hK hHeld K
      have hHeld := hHeld2
      clear hHeld2
      try simp only [Act.put, List.setIfInBounds_toArray, List.set_cons_zero, List.set_cons_succ, List.getElem_toArray, List.getElem_cons_zero, List.getElem_cons_succ]
      refine wpAnyH_ready (rs := [23]) (by kernel_rfl) (by simp) ?_
      refine AllReadyH.cons (by rfl) (fun K hK => ?_) AllReadyH.nil
      rw [if_pos (by rfl)]
      go_wp2_with fail
      refine (HH.out _ _ _ _ _ _ _ (gb_old HB2.out HG12.out) (blk_lt HR12.out) hl11 hl12 HO1112.out HO12.out).mono ?_
      rintro e w5 hP
      obtain ⟨ty, bx, rfl, hb5, hfin⟩ := split_none hP (gb_old HB2.out HG12.out)
      have HG5 := Aside0.mk (gb_below hb5 HG12.out)
      obtain ⟨⟨q0, q1, q2⟩, p0, p1, p2⟩ := ResBox.cells ((hb5.block _ (blk_lt HR12.out)).trans HR12.out)
      have HFIN := Aside0.mk hfin
      clear hfin hP hb5
      refine hK.out _ _ (HSK.out _ HG5.out) (fun hHeld2 => ?_)
      clear hK hHeld K
      have hHeld := hHeld2
      clear hHeld2
      try simp only [Act.put, List.setIfInBounds_toArray, List.set_cons_zero, List.set_cons_succ, List.getElem_toArray, List.getElem_cons_zero, List.getElem_cons_succ]
      refine wpAnyH_ready (rs := [24]) (by kernel_rfl) (by simp) ?_
      refine AllReadyH.cons (by rfl) (fun K hK => ?_) AllReadyH.nil
      rw [if_pos (by rfl)]
      go_wp2_with fail
      refine hK.out _ _ (HSK.out _ (gb_set (gb_set (gb_set HG5.out _ _) _ _) _ _)) (fun hHeld2 => ?_)
      clear hK hHeld hHeld2 K
      try simp only [Act.put, List.setIfInBounds_toArray, List.set_cons_zero, List.set_cons_succ, List.getElem_toArray, List.getElem_cons_zero, List.getElem_cons_succ]
      refine wpAnyH_done (by kernel_rfl) ?_ _
      go_wp2
      refine bodyPost_ret (v := .agg #[.iface ty (.pointer (some ⟨bx, 0, none⟩)), .string ⟨#[]⟩, .nilIface]) (by simp [results, Try.results79, go_sem, q0, q1, q2]) rfl ?_
      exact HFIN.out
    refine AllReadyH.cons (by rfl) (fun K hK => ?_) AllReadyH.nil
    rw [if_pos (by rfl)]
    go_wp2_with fail
    have HN13 := Aside0.mk (heap_alloc_new W0 (.cells #[.slice A2 ca.length c2, .slice B2 cb.length e2] 79))
    have hb13 := Aside0.mk (below_mk (Below.refl W0.heap.size W0) (.cells #[.slice A2 ca.length c2, .slice B2 cb.length e2] 79))
    have HG13 := Aside0.mk (gb_below hb13.out HGR.out)
    have HR13 : Aside0 (ResBox w.heap.size (W0.alloc (.cells #[.slice A2 ca.length c2, .slice B2 cb.length e2] 79))) := ⟨(hb13.out.block _ (blk_lt HR2.out)).trans HR2.out⟩
    refine hK.out _ _ (HSK.out _ HG13.out) (fun hHeld2 => ?_)
    clear hK hHeld K
    have hHeld := hHeld2
    clear hHeld2
    try simp only [Act.put, List.setIfInBounds_toArray, List.set_cons_zero, List.set_cons_succ, List.getElem_toArray, List.getElem_cons_zero, List.getElem_cons_succ]
    obtain ⟨s13, es13⟩ : ∃ s, s = W0.heap.size := ⟨_, rfl⟩
    rw [← es13] at HN13 ⊢
    clear es13 hb13
    generalize W0.alloc (.cells #[.slice A2 ca.length c2, .slice B2 cb.length e2] 79) = V13 at *
    refine wpAnyH_ready (rs := [6]) (by kernel_rfl) (by simp) ?_
    refine AllReadyH.cons (by rfl) (fun K hK => ?_) AllReadyH.nil
    rw [if_pos (by rfl)]
    go_wp2_with fail
    have HN14 := Aside0.mk (heap_alloc_new V13 (.cells #[.string mid] 9))
    have hb14 := Aside0.mk (below_mk (Below.refl V13.heap.size V13) (.cells #[.string mid] 9))
    have HN1314 := Aside0.mk ((hb14.out.block _ (blk_lt HN13.out)).trans HN13.out)
    have HG14 := Aside0.mk (gb_below hb14.out HG13.out)
    have HR14 : Aside0 (ResBox w.heap.size (V13.alloc (.cells #[.string mid] 9))) := ⟨(hb14.out.block _ (blk_lt HR13.out)).trans HR13.out⟩
    refine hK.out _ _ (HSK.out _ HG14.out) (fun hHeld2 => ?_)
    clear hK hHeld K
    have hHeld := hHeld2
    clear hHeld2
    try simp only [Act.put, List.setIfInBounds_toArray, List.set_cons_zero, List.set_cons_succ, List.getElem_toArray, List.getElem_cons_zero, List.getElem_cons_succ]
    obtain ⟨s14, es14⟩ : ∃ s, s = V13.heap.size := ⟨_, rfl⟩
    rw [← es14] at HN14 ⊢
    clear es14 hb14
    generalize V13.alloc (.cells #[.string mid] 9) = V14 at *
    refine wpAnyH_ready (rs := [11]) (by kernel_rfl) (by simp) ?_
    refine AllReadyH.cons (by rfl) (fun K hK => ?_) AllReadyH.nil
    rw [if_pos (by rfl)]
    go_wp2_with fail
    have HN15 := Aside0.mk (heap_alloc_new V14 (.cells #[.slice A1 ka.length c1, .slice (some ⟨s14, 0, none⟩) 1 1, .slice B1 kb.length e1] 22))
    have hb15 := Aside0.mk (below_mk (Below.refl V14.heap.size V14) (.cells #[.slice A1 ka.length c1, .slice (some ⟨s14, 0, none⟩) 1 1, .slice B1 kb.length e1] 22))
    have HN131415 := Aside0.mk ((hb15.out.block _ (blk_lt HN1314.out)).trans HN1314.out)
    have HN1415 := Aside0.mk ((hb15.out.block _ (blk_lt HN14.out)).trans HN14.out)
    have HG15 := Aside0.mk (gb_below hb15.out HG14.out)
    have HR15 : Aside0 (ResBox w.heap.size (V14.alloc (.cells #[.slice A1 ka.length c1, .slice (some ⟨s14, 0, none⟩) 1 1, .slice B1 kb.length e1] 22))) := ⟨(hb15.out.block _ (blk_lt HR14.out)).trans HR14.out⟩
    refine hK.out _ _ (HSK.out _ HG15.out) (fun hHeld2 => ?_)
    clear hK hHeld K
    have hHeld := hHeld2
    clear hHeld2
    try simp only [Act.put, List.setIfInBounds_toArray, List.set_cons_zero, List.set_cons_succ, List.getElem_toArray, List.getElem_cons_zero, List.getElem_cons_succ]
    obtain ⟨s15, es15⟩ : ∃ s, s = V14.heap.size := ⟨_, rfl⟩
    rw [← es15] at HN15 ⊢
    clear es15 hb15
    generalize V14.alloc (.cells #[.slice A1 ka.length c1, .slice (some ⟨s14, 0, none⟩) 1 1, .slice B1 kb.length e1] 22) = V15 at *
    refine wpAnyH_ready (rs := [12]) (by kernel_rfl) (by simp) ?_
    refine AllReadyH.cons (by rfl) (fun K hK => ?_) AllReadyH.nil
    rw [if_pos (by rfl)]
    go_wp2_with fail
    refine (JC1.out _ _ _ (gb_old HB2.out HG15.out) HN15.out HN1415.out).mono ?_
    rintro e V16 ⟨v16, rfl, ho16, hb16⟩
    obtain ⟨AA16, dd16, rfl, _, hm16, _, _⟩ := own_cells ho16
    have hl16 : w.heap.size < V15.heap.size := blk_lt HR15.out
    have HN13141516 := Aside0.mk ((hb16.block _ (blk_lt HN131415.out)).trans HN131415.out)
    have HN141516 := Aside0.mk ((hb16.block _ (blk_lt HN1415.out)).trans HN1415.out)
    have HN1516 := Aside0.mk ((hb16.block _ (blk_lt HN15.out)).trans HN15.out)
    have HG16 := Aside0.mk (gb_below hb16 HG15.out)
    have HR16 : Aside0 (ResBox w.heap.size V16) := ⟨(hb16.block _ (blk_lt HR15.out)).trans HR15.out⟩
    have HO16 := Aside0.mk ho16
    clear ho16 hb16
    refine hK.out _ _ (HSK.out _ HG16.out) (fun hHeld2 => ?_)
    clear hK hHeld K
    have hHeld := hHeld2
    clear hHeld2
    try simp only [Act.put, List.setIfInBounds_toArray, List.set_cons_zero, List.set_cons_succ, List.getElem_toArray, List.getElem_cons_zero, List.getElem_cons_succ]
    refine wpAnyH_ready (rs := [22]) (by kernel_rfl) (by simp) ?_
    refine AllReadyH.cons (by rfl) (fun K hK => ?_) AllReadyH.nil
    rw [if_pos (by rfl)]
    go_wp2_with fail
    refine (JC2.out _ _ (gb_old HB2.out HG16.out) HN13141516.out).mono ?_
    rintro e V17 ⟨v17, rfl, ho17, hb17⟩
    obtain ⟨AA17, dd17, rfl, _, hm17, _, _⟩ := own_cells ho17
    have hl17 : w.heap.size < V16.heap.size := blk_lt HR16.out
    have HN1314151617 := Aside0.mk ((hb17.block _ (blk_lt HN13141516.out)).trans HN13141516.out)
    have HN14151617 := Aside0.mk ((hb17.block _ (blk_lt HN141516.out)).trans HN141516.out)
    have HN151617 := Aside0.mk ((hb17.block _ (blk_lt HN1516.out)).trans HN1516.out)
    have HO1617 := Aside0.mk (pw_own_below HO16.out hb17)
    have HG17 := Aside0.mk (gb_below hb17 HG16.out)
    have HR17 : Aside0 (ResBox w.heap.size V17) := ⟨(hb17.block _ (blk_lt HR16.out)).trans HR16.out⟩
    have HO17 := Aside0.mk ho17
    clear ho17 hb17
    refine hK.out _ _ (HSK.out _ HG17.out) (fun hHeld2 => ?_)
    clear hK hHeld K
    have hHeld := hHeld2
    clear hHeld2
    try simp only [Act.put, List.setIfInBounds_toArray, List.set_cons_zero, List.set_cons_succ, List.getElem_toArray, List.getElem_cons_zero, List.getElem_cons_succ]
    refine wpAnyH_ready (rs := [23]) (by kernel_rfl) (by simp) ?_
    refine AllReadyH.cons (by rfl) (fun K hK => ?_) AllReadyH.nil
    rw [if_pos (by rfl)]
    go_wp2_with fail
    refine (HH.out _ _ _ _ _ _ _ (gb_old HB2.out HG17.out) (blk_lt HR17.out) hl16 hl17 HO1617.out HO17.out).mono ?_
    rintro e w5 hP
    obtain ⟨ty, bx, rfl, hb5, hfin⟩ := split_none hP (gb_old HB2.out HG17.out)
    have HG5 := Aside0.mk (gb_below hb5 HG17.out)
    obtain ⟨⟨q0, q1, q2⟩, p0, p1, p2⟩ := ResBox.cells ((hb5.block _ (blk_lt HR17.out)).trans HR17.out)
    have HFIN := Aside0.mk hfin
    clear hfin hP hb5
    refine hK.out _ _ (HSK.out _ HG5.out) (fun hHeld2 => ?_)
    clear hK hHeld K
    have hHeld := hHeld2
    clear hHeld2
    try simp only [Act.put, List.setIfInBounds_toArray, List.set_cons_zero, List.set_cons_succ, List.getElem_toArray, List.getElem_cons_zero, List.getElem_cons_succ]
    refine wpAnyH_ready (rs := [24]) (by kernel_rfl) (by simp) ?_
    refine AllReadyH.cons (by rfl) (fun K hK => ?_) AllReadyH.nil
    rw [if_pos (by rfl)]
    go_wp2_with fail
    refine hK.out _ _ (HSK.out _ (gb_set (gb_set (gb_set HG5.out _ _) _ _) _ _)) (fun hHeld2 => ?_)
    clear hK hHeld hHeld2 K
    try simp only [Act.put, List.setIfInBounds_toArray, List.set_cons_zero, List.set_cons_succ, List.getElem_toArray, List.getElem_cons_zero, List.getElem_cons_succ]
    refine wpAnyH_done (by kernel_rfl) ?_ _
    go_wp2
    refine bodyPost_ret (v := .agg #[.iface ty (.pointer (some ⟨bx, 0, none⟩)), .string ⟨#[]⟩, .nilIface]) (by simp [results, Try.results79, go_sem, q0, q1, q2]) rfl ?_
    exact HFIN.out
  · go_enter Try.func79, Try.ntmps79
    go_wp2
    obtain ⟨W0, hW0⟩ : ∃ W0, (w.alloc (.cells #[.nilIface, .string ⟨#[]⟩, .nilIface] 107)).drew = W0 := ⟨_, rfl⟩
    rw [hW0] at HB2 HR2
    have HSK : Aside0 (∀ W, W0.grownBy W (some w.heap.size) → (W.cell? ⟨ba, 0, none⟩ = some (.slice A1 ka.length c1) ∧ W.cell? ⟨ba, 1, none⟩ = some (.slice A2 ca.length c2) ∧ W.cell? ⟨bb, 0, none⟩ = some (.slice B1 kb.length e1) ∧ W.cell? ⟨bb, 1, none⟩ = some (.slice B2 cb.length e2)) ∧ W0.grownBy W (some w.heap.size)) := ⟨fun W hW => ⟨⟨pw_cell_below (gb_old HB2.out hW) x0, pw_cell_below (gb_old HB2.out hW) x1, pw_cell_below (gb_old HB2.out hW) x2, pw_cell_below (gb_old HB2.out hW) x3⟩, hW⟩⟩
    clear x0 x1 x2 x3
    have HW0 := Aside0.mk hW0
    clear hW0
    refine wp_region_held_drew (S := fun W' => (W'.cell? ⟨ba, 0, none⟩ = some (.slice A1 ka.length c1) ∧ W'.cell? ⟨ba, 1, none⟩ = some (.slice A2 ca.length c2) ∧ W'.cell? ⟨bb, 0, none⟩ = some (.slice B1 kb.length e1) ∧ W'.cell? ⟨bb, 1, none⟩ = some (.slice B2 cb.length e2)) ∧ W0.grownBy W' (some w.heap.size)) (by kernel_rfl) (HSK.out _ (by rw [HW0.out]; exact grownBy_refl _ _)) (fun hHeld => ?_)
    rw [HW0.out] at hHeld ⊢
    clear HW0
    refine wpAnyH_take (i := 0) (v := ?v0s) rfl (by kernel_rfl) (by kernel_rfl) (by kernel_rfl) (fun _ _ _ h => h) (Or.inl ⟨by rfl, fun wq hSw => ?y0s⟩) (by assumption) ?r0s
    case y0s => ((try dsimp only at hSw); go_simp; try with_reducible rfl)
    try simp only [Act.put, List.setIfInBounds_toArray, List.set_cons_zero, List.set_cons_succ, List.getElem_toArray, List.getElem_cons_zero, List.getElem_cons_succ]
    refine wpAnyH_take (i := 1) (v := ?v1s) rfl (by kernel_rfl) (by kernel_rfl) (by kernel_rfl) (fun _ _ _ h => h) (Or.inl ⟨by rfl, fun wq hSw => ?y1s⟩) (by assumption) ?r1s
    case y1s => ((try dsimp only at hSw); go_simp; try with_reducible rfl)
    try simp only [Act.put, List.setIfInBounds_toArray, List.set_cons_zero, List.set_cons_succ, List.getElem_toArray, List.getElem_cons_zero, List.getElem_cons_succ]
    refine wpAnyH_take (i := 2) (v := ?v2s) rfl (by kernel_rfl) (by kernel_rfl) (by kernel_rfl) (fun _ _ _ h => h) (Or.inl ⟨by rfl, fun wq hSw => ?y2s⟩) (by assumption) ?r2s
    case y2s => ((try dsimp only at hSw); go_simp; try with_reducible rfl)
    try simp only [Act.put, List.setIfInBounds_toArray, List.set_cons_zero, List.set_cons_succ, List.getElem_toArray, List.getElem_cons_zero, List.getElem_cons_succ]
    refine wpAnyH_take (i := 3) (v := ?v3s) rfl (by kernel_rfl) (by kernel_rfl) (by kernel_rfl) (fun _ _ _ h => h) (Or.inl ⟨by rfl, fun wq hSw => ?y3s⟩) (by assumption) ?r3s
    case y3s => ((try dsimp only at hSw); go_simp; try with_reducible rfl)
    try simp only [Act.put, List.setIfInBounds_toArray, List.set_cons_zero, List.set_cons_succ, List.getElem_toArray, List.getElem_cons_zero, List.getElem_cons_succ]
    refine wpAnyH_take (i := 4) (v := ?v4s) rfl (by kernel_rfl) (by kernel_rfl) (by kernel_rfl) (fun _ _ _ h => h) (Or.inl ⟨by rfl, fun wq hSw => ?y4s⟩) (by assumption) ?r4s
    case y4s => ((try dsimp only at hSw); go_simp; try with_reducible rfl)
    try simp only [Act.put, List.setIfInBounds_toArray, List.set_cons_zero, List.set_cons_succ, List.getElem_toArray, List.getElem_cons_zero, List.getElem_cons_succ]
    refine wpAnyH_take (i := 5) (v := ?v5s) rfl (by kernel_rfl) (by kernel_rfl) (by kernel_rfl) (fun _ _ _ h => h) (Or.inl ⟨by rfl, fun wq hSw => ?y5s⟩) (by assumption) ?r5s
    case y5s => ((try dsimp only at hSw); go_simp; try with_reducible rfl)
    try simp only [Act.put, List.setIfInBounds_toArray, List.set_cons_zero, List.set_cons_succ, List.getElem_toArray, List.getElem_cons_zero, List.getElem_cons_succ]
    refine wpAnyH_take (i := 7) (v := ?v7s) rfl (by kernel_rfl) (by kernel_rfl) (by kernel_rfl) (fun _ _ _ h => h) (Or.inl ⟨by rfl, fun wq hSw => ?y7s⟩) (by assumption) ?r7s
    case y7s => ((try dsimp only at hSw); go_simp; try with_reducible rfl)
    try simp only [Act.put, List.setIfInBounds_toArray, List.set_cons_zero, List.set_cons_succ, List.getElem_toArray, List.getElem_cons_zero, List.getElem_cons_succ]
    refine wpAnyH_take (i := 8) (v := ?v8s) rfl (by kernel_rfl) (by kernel_rfl) (by kernel_rfl) (fun _ _ _ h => h) (Or.inl ⟨by rfl, fun wq hSw => ?y8s⟩) (by assumption) ?r8s
    case y8s => ((try dsimp only at hSw); go_simp; try with_reducible rfl)
    try simp only [Act.put, List.setIfInBounds_toArray, List.set_cons_zero, List.set_cons_succ, List.getElem_toArray, List.getElem_cons_zero, List.getElem_cons_succ]
    refine wpAnyH_take (i := 9) (v := ?v9s) rfl (by kernel_rfl) (by kernel_rfl) (by kernel_rfl) (fun _ _ _ h => h) (Or.inl ⟨by rfl, fun wq hSw => ?y9s⟩) (by assumption) ?r9s
    case y9s => ((try dsimp only at hSw); go_simp; try with_reducible rfl)
    try simp only [Act.put, List.setIfInBounds_toArray, List.set_cons_zero, List.set_cons_succ, List.getElem_toArray, List.getElem_cons_zero, List.getElem_cons_succ]
    refine wpAnyH_take (i := 10) (v := ?v10s) rfl (by kernel_rfl) (by kernel_rfl) (by kernel_rfl) (fun _ _ _ h => h) (Or.inl ⟨by rfl, fun wq hSw => ?y10s⟩) (by assumption) ?r10s
    case y10s => ((try dsimp only at hSw); go_simp; try with_reducible rfl)
    try simp only [Act.put, List.setIfInBounds_toArray, List.set_cons_zero, List.set_cons_succ, List.getElem_toArray, List.getElem_cons_zero, List.getElem_cons_succ]
    refine wpAnyH_take (i := 13) (v := ?v13s) rfl (by kernel_rfl) (by kernel_rfl) (by kernel_rfl) (fun _ _ _ h => h) (Or.inl ⟨by rfl, fun wq hSw => ?y13s⟩) (by assumption) ?r13s
    case y13s => ((try dsimp only at hSw); go_simp; try with_reducible rfl)
    try simp only [Act.put, List.setIfInBounds_toArray, List.set_cons_zero, List.set_cons_succ, List.getElem_toArray, List.getElem_cons_zero, List.getElem_cons_succ]
    refine wpAnyH_take (i := 14) (v := ?v14s) rfl (by kernel_rfl) (by kernel_rfl) (by kernel_rfl) (fun _ _ _ h => h) (Or.inl ⟨by rfl, fun wq hSw => ?y14s⟩) (by assumption) ?r14s
    case y14s => ((try dsimp only at hSw); go_simp; try with_reducible rfl)
    try simp only [Act.put, List.setIfInBounds_toArray, List.set_cons_zero, List.set_cons_succ, List.getElem_toArray, List.getElem_cons_zero, List.getElem_cons_succ]
    refine wpAnyH_take (i := 15) (v := ?v15s) rfl (by kernel_rfl) (by kernel_rfl) (by kernel_rfl) (fun _ _ _ h => h) (Or.inl ⟨by rfl, fun wq hSw => ?y15s⟩) (by assumption) ?r15s
    case y15s => ((try dsimp only at hSw); go_simp; try with_reducible rfl)
    try simp only [Act.put, List.setIfInBounds_toArray, List.set_cons_zero, List.set_cons_succ, List.getElem_toArray, List.getElem_cons_zero, List.getElem_cons_succ]
    refine wpAnyH_take (i := 16) (v := ?v16s) rfl (by kernel_rfl) (by kernel_rfl) (by kernel_rfl) (fun _ _ _ h => h) (Or.inl ⟨by rfl, fun wq hSw => ?y16s⟩) (by assumption) ?r16s
    case y16s => ((try dsimp only at hSw); go_simp; try with_reducible rfl)
    try simp only [Act.put, List.setIfInBounds_toArray, List.set_cons_zero, List.set_cons_succ, List.getElem_toArray, List.getElem_cons_zero, List.getElem_cons_succ]
    refine wpAnyH_take (i := 17) (v := ?v17s) rfl (by kernel_rfl) (by kernel_rfl) (by kernel_rfl) (fun _ _ _ h => h) (Or.inl ⟨by rfl, fun wq hSw => ?y17s⟩) (by assumption) ?r17s
    case y17s => ((try dsimp only at hSw); go_simp; try with_reducible rfl)
    try simp only [Act.put, List.setIfInBounds_toArray, List.set_cons_zero, List.set_cons_succ, List.getElem_toArray, List.getElem_cons_zero, List.getElem_cons_succ]
    refine wpAnyH_take (i := 18) (v := ?v18s) rfl (by kernel_rfl) (by kernel_rfl) (by kernel_rfl) (fun _ _ _ h => h) (Or.inl ⟨by rfl, fun wq hSw => ?y18s⟩) (by assumption) ?r18s
    case y18s => ((try dsimp only at hSw); go_simp; try with_reducible rfl)
    try simp only [Act.put, List.setIfInBounds_toArray, List.set_cons_zero, List.set_cons_succ, List.getElem_toArray, List.getElem_cons_zero, List.getElem_cons_succ]
    refine wpAnyH_take (i := 19) (v := ?v19s) rfl (by kernel_rfl) (by kernel_rfl) (by kernel_rfl) (fun _ _ _ h => h) (Or.inl ⟨by rfl, fun wq hSw => ?y19s⟩) (by assumption) ?r19s
    case y19s => ((try dsimp only at hSw); go_simp; try with_reducible rfl)
    try simp only [Act.put, List.setIfInBounds_toArray, List.set_cons_zero, List.set_cons_succ, List.getElem_toArray, List.getElem_cons_zero, List.getElem_cons_succ]
    refine wpAnyH_take (i := 20) (v := ?v20s) rfl (by kernel_rfl) (by kernel_rfl) (by kernel_rfl) (fun _ _ _ h => h) (Or.inl ⟨by rfl, fun wq hSw => ?y20s⟩) (by assumption) ?r20s
    case y20s => ((try dsimp only at hSw); go_simp; try with_reducible rfl)
    try simp only [Act.put, List.setIfInBounds_toArray, List.set_cons_zero, List.set_cons_succ, List.getElem_toArray, List.getElem_cons_zero, List.getElem_cons_succ]
    have HGR := Aside0.mk (grownBy_refl W0 (some w.heap.size))
    refine wpAnyH_ready (rs := [6, 21]) (by kernel_rfl) (by simp) ?_
    refine AllReadyH.cons (by rfl) (fun K hK => ?_) ?_
    · rw [if_pos (by rfl)]
      go_wp2_with fail
      have HN18 := Aside0.mk (heap_alloc_new W0 (.cells #[.string mid] 9))
      have hb18 := Aside0.mk (below_mk (Below.refl W0.heap.size W0) (.cells #[.string mid] 9))
      have HG18 := Aside0.mk (gb_below hb18.out HGR.out)
      have HR18 : Aside0 (ResBox w.heap.size (W0.alloc (.cells #[.string mid] 9))) := ⟨(hb18.out.block _ (blk_lt HR2.out)).trans HR2.out⟩
      refine hK.out _ _ (HSK.out _ HG18.out) (fun hHeld2 => ?_)
      clear hK hHeld K
      have hHeld := hHeld2
      clear hHeld2
      try simp only [Act.put, List.setIfInBounds_toArray, List.set_cons_zero, List.set_cons_succ, List.getElem_toArray, List.getElem_cons_zero, List.getElem_cons_succ]
      obtain ⟨s18, es18⟩ : ∃ s, s = W0.heap.size := ⟨_, rfl⟩
      rw [← es18] at HN18 ⊢
      clear es18 hb18
      generalize W0.alloc (.cells #[.string mid] 9) = V18 at *
      refine wpAnyH_ready (rs := [11, 21]) (by kernel_rfl) (by simp) ?_
      refine AllReadyH.cons (by rfl) (fun K hK => ?_) ?_
      · rw [if_pos (by rfl)]
        go_wp2_with fail
        have HN19 := Aside0.mk (heap_alloc_new V18 (.cells #[.slice A1 ka.length c1, .slice (some ⟨s18, 0, none⟩) 1 1, .slice B1 kb.length e1] 22))
        have hb19 := Aside0.mk (below_mk (Below.refl V18.heap.size V18) (.cells #[.slice A1 ka.length c1, .slice (some ⟨s18, 0, none⟩) 1 1, .slice B1 kb.length e1] 22))
        have HN1819 := Aside0.mk ((hb19.out.block _ (blk_lt HN18.out)).trans HN18.out)
        have HG19 := Aside0.mk (gb_below hb19.out HG18.out)
        have HR19 : Aside0 (ResBox w.heap.size (V18.alloc (.cells #[.slice A1 ka.length c1, .slice (some ⟨s18, 0, none⟩) 1 1, .slice B1 kb.length e1] 22))) := ⟨(hb19.out.block _ (blk_lt HR18.out)).trans HR18.out⟩
        refine hK.out _ _ (HSK.out _ HG19.out) (fun hHeld2 => ?_)
        clear hK hHeld K
        have hHeld := hHeld2
        clear hHeld2
        try simp only [Act.put, List.setIfInBounds_toArray, List.set_cons_zero, List.set_cons_succ, List.getElem_toArray, List.getElem_cons_zero, List.getElem_cons_succ]
        obtain ⟨s19, es19⟩ : ∃ s, s = V18.heap.size := ⟨_, rfl⟩
        rw [← es19] at HN19 ⊢
        clear es19 hb19
        generalize V18.alloc (.cells #[.slice A1 ka.length c1, .slice (some ⟨s18, 0, none⟩) 1 1, .slice B1 kb.length e1] 22) = V19 at *
        refine wpAnyH_ready (rs := [12, 21]) (by kernel_rfl) (by simp) ?_
        refine AllReadyH.cons (by rfl) (fun K hK => ?_) ?_
        · rw [if_pos (by rfl)]
          go_wp2_with fail
          refine (JC1.out _ _ _ (gb_old HB2.out HG19.out) HN19.out HN1819.out).mono ?_
          rintro e V20 ⟨v20, rfl, ho20, hb20⟩
          obtain ⟨AA20, dd20, rfl, _, hm20, _, _⟩ := own_cells ho20
          have hl20 : w.heap.size < V19.heap.size := blk_lt HR19.out
          have HN181920 := Aside0.mk ((hb20.block _ (blk_lt HN1819.out)).trans HN1819.out)
          have HN1920 := Aside0.mk ((hb20.block _ (blk_lt HN19.out)).trans HN19.out)
          have HG20 := Aside0.mk (gb_below hb20 HG19.out)
          have HR20 : Aside0 (ResBox w.heap.size V20) := ⟨(hb20.block _ (blk_lt HR19.out)).trans HR19.out⟩
          have HO20 := Aside0.mk ho20
          clear ho20 hb20
          refine hK.out _ _ (HSK.out _ HG20.out) (fun hHeld2 => ?_)
          clear hK hHeld K
          have hHeld := hHeld2
          clear hHeld2
          try simp only [Act.put, List.setIfInBounds_toArray, List.set_cons_zero, List.set_cons_succ, List.getElem_toArray, List.getElem_cons_zero, List.getElem_cons_succ]
          refine wpAnyH_ready (rs := [21]) (by kernel_rfl) (by simp) ?_
          refine AllReadyH.cons (by rfl) (fun K hK => ?_) AllReadyH.nil
          rw [if_pos (by rfl)]
          go_wp2_with fail
          have HN21 := Aside0.mk (heap_alloc_new V20 (.cells #[.slice A2 ca.length c2, .slice B2 cb.length e2] 79))
          have hb21 := Aside0.mk (below_mk (Below.refl V20.heap.size V20) (.cells #[.slice A2 ca.length c2, .slice B2 cb.length e2] 79))
          have HN18192021 := Aside0.mk ((hb21.out.block _ (blk_lt HN181920.out)).trans HN181920.out)
          have HN192021 := Aside0.mk ((hb21.out.block _ (blk_lt HN1920.out)).trans HN1920.out)
          have HO2021 := Aside0.mk (pw_own_below HO20.out hb21.out)
          have HG21 := Aside0.mk (gb_below hb21.out HG20.out)
          have HR21 : Aside0 (ResBox w.heap.size (V20.alloc (.cells #[.slice A2 ca.length c2, .slice B2 cb.length e2] 79))) := ⟨(hb21.out.block _ (blk_lt HR20.out)).trans HR20.out⟩
          refine hK.out _ _ (HSK.out _ HG21.out) (fun hHeld2 => ?_)
          clear hK hHeld K
          have hHeld := hHeld2
          clear hHeld2
          try simp only [Act.put, List.setIfInBounds_toArray, List.set_cons_zero, List.set_cons_succ, List.getElem_toArray, List.getElem_cons_zero, List.getElem_cons_succ]
          obtain ⟨s21, es21⟩ : ∃ s, s = V20.heap.size := ⟨_, rfl⟩
          rw [← es21] at HN21 ⊢
          clear es21 hb21
          generalize V20.alloc (.cells #[.slice A2 ca.length c2, .slice B2 cb.length e2] 79) = V21 at *
          refine wpAnyH_ready (rs := [22]) (by kernel_rfl) (by simp) ?_
          refine AllReadyH.cons (by rfl) (fun K hK => ?_) AllReadyH.nil
          rw [if_pos (by rfl)]
          go_wp2_with fail
          refine (JC2.out _ _ (gb_old HB2.out HG21.out) HN21.out).mono ?_
          rintro e V22 ⟨v22, rfl, ho22, hb22⟩
          obtain ⟨AA22, dd22, rfl, _, hm22, _, _⟩ := own_cells ho22
          have hl22 : w.heap.size < V21.heap.size := blk_lt HR21.out
          have HN1819202122 := Aside0.mk ((hb22.block _ (blk_lt HN18192021.out)).trans HN18192021.out)
          have HN19202122 := Aside0.mk ((hb22.block _ (blk_lt HN192021.out)).trans HN192021.out)
          have HN2122 := Aside0.mk ((hb22.block _ (blk_lt HN21.out)).trans HN21.out)
          have HO202122 := Aside0.mk (pw_own_below HO2021.out hb22)
          have HG22 := Aside0.mk (gb_below hb22 HG21.out)
          have HR22 : Aside0 (ResBox w.heap.size V22) := ⟨(hb22.block _ (blk_lt HR21.out)).trans HR21.out⟩
          have HO22 := Aside0.mk ho22
          clear ho22 hb22
          refine hK.out _ _ (HSK.out _ HG22.out) (fun hHeld2 => ?_)
          clear hK hHeld K
          have hHeld := hHeld2
          clear hHeld2
          try simp only [Act.put, List.setIfInBounds_toArray, List.set_cons_zero, List.set_cons_succ, List.getElem_toArray, List.getElem_cons_zero, List.getElem_cons_succ]
          refine wpAnyH_ready (rs := [23]) (by kernel_rfl) (by simp) ?_
          refine AllReadyH.cons (by rfl) (fun K hK => ?_) AllReadyH.nil
          rw [if_pos (by rfl)]
          go_wp2_with fail
          refine (HH.out _ _ _ _ _ _ _ (gb_old HB2.out HG22.out) (blk_lt HR22.out) hl20 hl22 HO202122.out HO22.out).mono ?_
          rintro e w5 hP
          obtain ⟨ty, bx, ty2, bx2, rfl, hb5, hfin⟩ := split_some hP (gb_old HB2.out HG22.out)
          have HG5 := Aside0.mk (gb_below hb5 HG22.out)
          obtain ⟨⟨q0, q1, q2⟩, p0, p1, p2⟩ := ResBox.cells ((hb5.block _ (blk_lt HR22.out)).trans HR22.out)
          have HFIN := Aside0.mk hfin
          clear hfin hP hb5
          refine hK.out _ _ (HSK.out _ HG5.out) (fun hHeld2 => ?_)
          clear hK hHeld K
          have hHeld := hHeld2
          clear hHeld2
          try simp only [Act.put, List.setIfInBounds_toArray, List.set_cons_zero, List.set_cons_succ, List.getElem_toArray, List.getElem_cons_zero, List.getElem_cons_succ]
          refine wpAnyH_ready (rs := [24]) (by kernel_rfl) (by simp) ?_
          refine AllReadyH.cons (by rfl) (fun K hK => ?_) AllReadyH.nil
          rw [if_pos (by rfl)]
          go_wp2_with fail
          refine hK.out _ _ (HSK.out _ (gb_set (gb_set (gb_set HG5.out _ _) _ _) _ _)) (fun hHeld2 => ?_)
          clear hK hHeld hHeld2 K
          try simp only [Act.put, List.setIfInBounds_toArray, List.set_cons_zero, List.set_cons_succ, List.getElem_toArray, List.getElem_cons_zero, List.getElem_cons_succ]
          refine wpAnyH_done (by kernel_rfl) ?_ _
          go_wp2
          refine bodyPost_ret (v := .agg #[.iface ty (.pointer (some ⟨bx, 0, none⟩)), .string mid2, .iface ty2 (.pointer (some ⟨bx2, 0, none⟩))]) (by simp [results, Try.results79, go_sem, q0, q1, q2]) rfl ?_
          exact HFIN.out
        refine AllReadyH.cons (by rfl) (fun K hK => ?_) AllReadyH.nil
        rw [if_pos (by rfl)]
        go_wp2_with fail
        have HN23 := Aside0.mk (heap_alloc_new V19 (.cells #[.slice A2 ca.length c2, .slice B2 cb.length e2] 79))
        have hb23 := Aside0.mk (below_mk (Below.refl V19.heap.size V19) (.cells #[.slice A2 ca.length c2, .slice B2 cb.length e2] 79))
        have HN181923 := Aside0.mk ((hb23.out.block _ (blk_lt HN1819.out)).trans HN1819.out)
        have HN1923 := Aside0.mk ((hb23.out.block _ (blk_lt HN19.out)).trans HN19.out)
        have HG23 := Aside0.mk (gb_below hb23.out HG19.out)
        have HR23 : Aside0 (ResBox w.heap.size (V19.alloc (.cells #[.slice A2 ca.length c2, .slice B2 cb.length e2] 79))) := ⟨(hb23.out.block _ (blk_lt HR19.out)).trans HR19.out⟩
        refine hK.out _ _ (HSK.out _ HG23.out) (fun hHeld2 => ?_)
        clear hK hHeld K
        have hHeld := hHeld2
        clear hHeld2
        try simp only [Act.put, List.setIfInBounds_toArray, List.set_cons_zero, List.set_cons_succ, List.getElem_toArray, List.getElem_cons_zero, List.getElem_cons_succ]
        obtain ⟨s23, es23⟩ : ∃ s, s = V19.heap.size := ⟨_, rfl⟩
        rw [← es23] at HN23 ⊢
        clear es23 hb23
        generalize V19.alloc (.cells #[.slice A2 ca.length c2, .slice B2 cb.length e2] 79) = V23 at *
        refine wpAnyH_ready (rs := [12]) (by kernel_rfl) (by simp) ?_
        refine AllReadyH.cons (by rfl) (fun K hK => ?_) AllReadyH.nil
        rw [if_pos (by rfl)]
        go_wp2_with fail
        refine (JC1.out _ _ _ (gb_old HB2.out HG23.out) HN1923.out HN181923.out).mono ?_
        rintro e V24 ⟨v24, rfl, ho24, hb24⟩
        obtain ⟨AA24, dd24, rfl, _, hm24, _, _⟩ := own_cells ho24
        have hl24 : w.heap.size < V23.heap.size := blk_lt HR23.out
        have HN18192324 := Aside0.mk ((hb24.block _ (blk_lt HN181923.out)).trans HN181923.out)
        have HN192324 := Aside0.mk ((hb24.block _ (blk_lt HN1923.out)).trans HN1923.out)
        have HN2324 := Aside0.mk ((hb24.block _ (blk_lt HN23.out)).trans HN23.out)
        have HG24 := Aside0.mk (gb_below hb24 HG23.out)
        have HR24 : Aside0 (ResBox w.heap.size V24) := ⟨(hb24.block _ (blk_lt HR23.out)).trans HR23.out⟩
        have HO24 := Aside0.mk ho24
        clear ho24 hb24
        refine hK.out _ _ (HSK.out _ HG24.out) (fun hHeld2 => ?_)
        clear hK hHeld K
        have hHeld := hHeld2
        clear hHeld2
        try simp only [Act.put, List.setIfInBounds_toArray, List.set_cons_zero, List.set_cons_succ, List.getElem_toArray, List.getElem_cons_zero, List.getElem_cons_succ]
        refine wpAnyH_ready (rs := [22]) (by kernel_rfl) (by simp) ?_
        refine AllReadyH.cons (by rfl) (fun K hK => ?_) AllReadyH.nil
        rw [if_pos (by rfl)]
        go_wp2_with fail
        refine (JC2.out _ _ (gb_old HB2.out HG24.out) HN2324.out).mono ?_
        rintro e V25 ⟨v25, rfl, ho25, hb25⟩
        obtain ⟨AA25, dd25, rfl, _, hm25, _, _⟩ := own_cells ho25
        have hl25 : w.heap.size < V24.heap.size := blk_lt HR24.out
        have HN1819232425 := Aside0.mk ((hb25.block _ (blk_lt HN18192324.out)).trans HN18192324.out)
        have HN19232425 := Aside0.mk ((hb25.block _ (blk_lt HN192324.out)).trans HN192324.out)
        have HN232425 := Aside0.mk ((hb25.block _ (blk_lt HN2324.out)).trans HN2324.out)
        have HO2425 := Aside0.mk (pw_own_below HO24.out hb25)
        have HG25 := Aside0.mk (gb_below hb25 HG24.out)
        have HR25 : Aside0 (ResBox w.heap.size V25) := ⟨(hb25.block _ (blk_lt HR24.out)).trans HR24.out⟩
        have HO25 := Aside0.mk ho25
        clear ho25 hb25
        refine hK.out _ _ (HSK.out _ HG25.out) (fun hHeld2 => ?_)
        clear hK hHeld K
        have hHeld := hHeld2
        clear hHeld2
        try simp only [Act.put, List.setIfInBounds_toArray, List.set_cons_zero, List.set_cons_succ, List.getElem_toArray, List.getElem_cons_zero, List.getElem_cons_succ]
        refine wpAnyH_ready (rs := [23]) (by kernel_rfl) (by simp) ?_
        refine AllReadyH.cons (by rfl) (fun K hK => ?_) AllReadyH.nil
        rw [if_pos (by rfl)]
        go_wp2_with fail
        refine (HH.out _ _ _ _ _ _ _ (gb_old HB2.out HG25.out) (blk_lt HR25.out) hl24 hl25 HO2425.out HO25.out).mono ?_
        rintro e w5 hP
        obtain ⟨ty, bx, ty2, bx2, rfl, hb5, hfin⟩ := split_some hP (gb_old HB2.out HG25.out)
        have HG5 := Aside0.mk (gb_below hb5 HG25.out)
        obtain ⟨⟨q0, q1, q2⟩, p0, p1, p2⟩ := ResBox.cells ((hb5.block _ (blk_lt HR25.out)).trans HR25.out)
        have HFIN := Aside0.mk hfin
        clear hfin hP hb5
        refine hK.out _ _ (HSK.out _ HG5.out) (fun hHeld2 => ?_)
        clear hK hHeld K
        have hHeld := hHeld2
        clear hHeld2
        try simp only [Act.put, List.setIfInBounds_toArray, List.set_cons_zero, List.set_cons_succ, List.getElem_toArray, List.getElem_cons_zero, List.getElem_cons_succ]
        refine wpAnyH_ready (rs := [24]) (by kernel_rfl) (by simp) ?_
        refine AllReadyH.cons (by rfl) (fun K hK => ?_) AllReadyH.nil
        rw [if_pos (by rfl)]
        go_wp2_with fail
        refine hK.out _ _ (HSK.out _ (gb_set (gb_set (gb_set HG5.out _ _) _ _) _ _)) (fun hHeld2 => ?_)
        clear hK hHeld hHeld2 K
        try simp only [Act.put, List.setIfInBounds_toArray, List.set_cons_zero, List.set_cons_succ, List.getElem_toArray, List.getElem_cons_zero, List.getElem_cons_succ]
        refine wpAnyH_done (by kernel_rfl) ?_ _
        go_wp2
        refine bodyPost_ret (v := .agg #[.iface ty (.pointer (some ⟨bx, 0, none⟩)), .string mid2, .iface ty2 (.pointer (some ⟨bx2, 0, none⟩))]) (by simp [results, Try.results79, go_sem, q0, q1, q2]) rfl ?_
        exact HFIN.out
      refine AllReadyH.cons (by rfl) (fun K hK => ?_) AllReadyH.nil
      rw [if_pos (by rfl)]
      go_wp2_with fail
      have HN26 := Aside0.mk (heap_alloc_new V18 (.cells #[.slice A2 ca.length c2, .slice B2 cb.length e2] 79))
      have hb26 := Aside0.mk (below_mk (Below.refl V18.heap.size V18) (.cells #[.slice A2 ca.length c2, .slice B2 cb.length e2] 79))
      have HN1826 := Aside0.mk ((hb26.out.block _ (blk_lt HN18.out)).trans HN18.out)
      have HG26 := Aside0.mk (gb_below hb26.out HG18.out)
      have HR26 : Aside0 (ResBox w.heap.size (V18.alloc (.cells #[.slice A2 ca.length c2, .slice B2 cb.length e2] 79))) := ⟨(hb26.out.block _ (blk_lt HR18.out)).trans HR18.out⟩
      refine hK.out _ _ (HSK.out _ HG26.out) (fun hHeld2 => ?_)
      clear hK hHeld K
      have hHeld := hHeld2
      clear hHeld2
      try simp only [Act.put, List.setIfInBounds_toArray, List.set_cons_zero, List.set_cons_succ, List.getElem_toArray, List.getElem_cons_zero, List.getElem_cons_succ]
      obtain ⟨s26, es26⟩ : ∃ s, s = V18.heap.size := ⟨_, rfl⟩
      rw [← es26] at HN26 ⊢
      clear es26 hb26
      generalize V18.alloc (.cells #[.slice A2 ca.length c2, .slice B2 cb.length e2] 79) = V26 at *
      refine wpAnyH_ready (rs := [11]) (by kernel_rfl) (by simp) ?_
      refine AllReadyH.cons (by rfl) (fun K hK => ?_) AllReadyH.nil
      rw [if_pos (by rfl)]
      go_wp2_with fail
      have HN27 := Aside0.mk (heap_alloc_new V26 (.cells #[.slice A1 ka.length c1, .slice (some ⟨s18, 0, none⟩) 1 1, .slice B1 kb.length e1] 22))
      have hb27 := Aside0.mk (below_mk (Below.refl V26.heap.size V26) (.cells #[.slice A1 ka.length c1, .slice (some ⟨s18, 0, none⟩) 1 1, .slice B1 kb.length e1] 22))
      have HN182627 := Aside0.mk ((hb27.out.block _ (blk_lt HN1826.out)).trans HN1826.out)
      have HN2627 := Aside0.mk ((hb27.out.block _ (blk_lt HN26.out)).trans HN26.out)
      have HG27 := Aside0.mk (gb_below hb27.out HG26.out)
      have HR27 : Aside0 (ResBox w.heap.size (V26.alloc (.cells #[.slice A1 ka.length c1, .slice (some ⟨s18, 0, none⟩) 1 1, .slice B1 kb.length e1] 22))) := ⟨(hb27.out.block _ (blk_lt HR26.out)).trans HR26.out⟩
      refine hK.out _ _ (HSK.out _ HG27.out) (fun hHeld2 => ?_)
      clear hK hHeld K
      have hHeld := hHeld2
      clear hHeld2
      try simp only [Act.put, List.setIfInBounds_toArray, List.set_cons_zero, List.set_cons_succ, List.getElem_toArray, List.getElem_cons_zero, List.getElem_cons_succ]
      obtain ⟨s27, es27⟩ : ∃ s, s = V26.heap.size := ⟨_, rfl⟩
      rw [← es27] at HN27 ⊢
      clear es27 hb27
      generalize V26.alloc (.cells #[.slice A1 ka.length c1, .slice (some ⟨s18, 0, none⟩) 1 1, .slice B1 kb.length e1] 22) = V27 at *
      refine wpAnyH_ready (rs := [12]) (by kernel_rfl) (by simp) ?_
      refine AllReadyH.cons (by rfl) (fun K hK => ?_) AllReadyH.nil
      rw [if_pos (by rfl)]
      go_wp2_with fail
      refine (JC1.out _ _ _ (gb_old HB2.out HG27.out) HN27.out HN182627.out).mono ?_
      rintro e V28 ⟨v28, rfl, ho28, hb28⟩
      obtain ⟨AA28, dd28, rfl, _, hm28, _, _⟩ := own_cells ho28
      have hl28 : w.heap.size < V27.heap.size := blk_lt HR27.out
      have HN18262728 := Aside0.mk ((hb28.block _ (blk_lt HN182627.out)).trans HN182627.out)
      have HN262728 := Aside0.mk ((hb28.block _ (blk_lt HN2627.out)).trans HN2627.out)
      have HN2728 := Aside0.mk ((hb28.block _ (blk_lt HN27.out)).trans HN27.out)
      have HG28 := Aside0.mk (gb_below hb28 HG27.out)
      have HR28 : Aside0 (ResBox w.heap.size V28) := ⟨(hb28.block _ (blk_lt HR27.out)).trans HR27.out⟩
      have HO28 := Aside0.mk ho28
      clear ho28 hb28
      refine hK.out _ _ (HSK.out _ HG28.out) (fun hHeld2 => ?_)
      clear hK hHeld K
      have hHeld := hHeld2
      clear hHeld2
      try simp only [Act.put, List.setIfInBounds_toArray, List.set_cons_zero, List.set_cons_succ, List.getElem_toArray, List.getElem_cons_zero, List.getElem_cons_succ]
      refine wpAnyH_ready (rs := [22]) (by kernel_rfl) (by simp) ?_
      refine AllReadyH.cons (by rfl) (fun K hK => ?_) AllReadyH.nil
      rw [if_pos (by rfl)]
      go_wp2_with fail
      refine (JC2.out _ _ (gb_old HB2.out HG28.out) HN262728.out).mono ?_
      rintro e V29 ⟨v29, rfl, ho29, hb29⟩
      obtain ⟨AA29, dd29, rfl, _, hm29, _, _⟩ := own_cells ho29
      have hl29 : w.heap.size < V28.heap.size := blk_lt HR28.out
      have HN1826272829 := Aside0.mk ((hb29.block _ (blk_lt HN18262728.out)).trans HN18262728.out)
      have HN26272829 := Aside0.mk ((hb29.block _ (blk_lt HN262728.out)).trans HN262728.out)
      have HN272829 := Aside0.mk ((hb29.block _ (blk_lt HN2728.out)).trans HN2728.out)
      have HO2829 := Aside0.mk (pw_own_below HO28.out hb29)
      have HG29 := Aside0.mk (gb_below hb29 HG28.out)
      have HR29 : Aside0 (ResBox w.heap.size V29) := ⟨(hb29.block _ (blk_lt HR28.out)).trans HR28.out⟩
      have HO29 := Aside0.mk ho29
      clear ho29 hb29
      refine hK.out _ _ (HSK.out _ HG29.out) (fun hHeld2 => ?_)
      clear hK hHeld K
      have hHeld := hHeld2
      clear hHeld2
      try simp only [Act.put, List.setIfInBounds_toArray, List.set_cons_zero, List.set_cons_succ, List.getElem_toArray, List.getElem_cons_zero, List.getElem_cons_succ]
      refine wpAnyH_ready (rs := [23]) (by kernel_rfl) (by simp) ?_
      refine AllReadyH.cons (by rfl) (fun K hK => ?_) AllReadyH.nil
      rw [if_pos (by rfl)]
      go_wp2_with fail
      refine (HH.out _ _ _ _ _ _ _ (gb_old HB2.out HG29.out) (blk_lt HR29.out) hl28 hl29 HO2829.out HO29.out).mono ?_
      rintro e w5 hP
      obtain ⟨ty, bx, ty2, bx2, rfl, hb5, hfin⟩ := split_some hP (gb_old HB2.out HG29.out)
      have HG5 := Aside0.mk (gb_below hb5 HG29.out)
      obtain ⟨⟨q0, q1, q2⟩, p0, p1, p2⟩ := ResBox.cells ((hb5.block _ (blk_lt HR29.out)).trans HR29.out)
      have HFIN := Aside0.mk hfin
      clear hfin hP hb5
      refine hK.out _ _ (HSK.out _ HG5.out) (fun hHeld2 => ?_)
      clear hK hHeld K
      have hHeld := hHeld2
      clear hHeld2
      try simp only [Act.put, List.setIfInBounds_toArray, List.set_cons_zero, List.set_cons_succ, List.getElem_toArray, List.getElem_cons_zero, List.getElem_cons_succ]
      refine wpAnyH_ready (rs := [24]) (by kernel_rfl) (by simp) ?_
      refine AllReadyH.cons (by rfl) (fun K hK => ?_) AllReadyH.nil
      rw [if_pos (by rfl)]
      go_wp2_with fail
      refine hK.out _ _ (HSK.out _ (gb_set (gb_set (gb_set HG5.out _ _) _ _) _ _)) (fun hHeld2 => ?_)
      clear hK hHeld hHeld2 K
      try simp only [Act.put, List.setIfInBounds_toArray, List.set_cons_zero, List.set_cons_succ, List.getElem_toArray, List.getElem_cons_zero, List.getElem_cons_succ]
      refine wpAnyH_done (by kernel_rfl) ?_ _
      go_wp2
      refine bodyPost_ret (v := .agg #[.iface ty (.pointer (some ⟨bx, 0, none⟩)), .string mid2, .iface ty2 (.pointer (some ⟨bx2, 0, none⟩))]) (by simp [results, Try.results79, go_sem, q0, q1, q2]) rfl ?_
      exact HFIN.out
    refine AllReadyH.cons (by rfl) (fun K hK => ?_) AllReadyH.nil
    rw [if_pos (by rfl)]
    go_wp2_with fail
    have HN30 := Aside0.mk (heap_alloc_new W0 (.cells #[.slice A2 ca.length c2, .slice B2 cb.length e2] 79))
    have hb30 := Aside0.mk (below_mk (Below.refl W0.heap.size W0) (.cells #[.slice A2 ca.length c2, .slice B2 cb.length e2] 79))
    have HG30 := Aside0.mk (gb_below hb30.out HGR.out)
    have HR30 : Aside0 (ResBox w.heap.size (W0.alloc (.cells #[.slice A2 ca.length c2, .slice B2 cb.length e2] 79))) := ⟨(hb30.out.block _ (blk_lt HR2.out)).trans HR2.out⟩
    refine hK.out _ _ (HSK.out _ HG30.out) (fun hHeld2 => ?_)
    clear hK hHeld K
    have hHeld := hHeld2
    clear hHeld2
    try simp only [Act.put, List.setIfInBounds_toArray, List.set_cons_zero, List.set_cons_succ, List.getElem_toArray, List.getElem_cons_zero, List.getElem_cons_succ]
    obtain ⟨s30, es30⟩ : ∃ s, s = W0.heap.size := ⟨_, rfl⟩
    rw [← es30] at HN30 ⊢
    clear es30 hb30
    generalize W0.alloc (.cells #[.slice A2 ca.length c2, .slice B2 cb.length e2] 79) = V30 at *
    refine wpAnyH_ready (rs := [6]) (by kernel_rfl) (by simp) ?_
    refine AllReadyH.cons (by rfl) (fun K hK => ?_) AllReadyH.nil
    rw [if_pos (by rfl)]
    go_wp2_with fail
    have HN31 := Aside0.mk (heap_alloc_new V30 (.cells #[.string mid] 9))
    have hb31 := Aside0.mk (below_mk (Below.refl V30.heap.size V30) (.cells #[.string mid] 9))
    have HN3031 := Aside0.mk ((hb31.out.block _ (blk_lt HN30.out)).trans HN30.out)
    have HG31 := Aside0.mk (gb_below hb31.out HG30.out)
    have HR31 : Aside0 (ResBox w.heap.size (V30.alloc (.cells #[.string mid] 9))) := ⟨(hb31.out.block _ (blk_lt HR30.out)).trans HR30.out⟩
    refine hK.out _ _ (HSK.out _ HG31.out) (fun hHeld2 => ?_)
    clear hK hHeld K
    have hHeld := hHeld2
    clear hHeld2
    try simp only [Act.put, List.setIfInBounds_toArray, List.set_cons_zero, List.set_cons_succ, List.getElem_toArray, List.getElem_cons_zero, List.getElem_cons_succ]
    obtain ⟨s31, es31⟩ : ∃ s, s = V30.heap.size := ⟨_, rfl⟩
    rw [← es31] at HN31 ⊢
    clear es31 hb31
    generalize V30.alloc (.cells #[.string mid] 9) = V31 at *
    refine wpAnyH_ready (rs := [11]) (by kernel_rfl) (by simp) ?_
    refine AllReadyH.cons (by rfl) (fun K hK => ?_) AllReadyH.nil
    rw [if_pos (by rfl)]
    go_wp2_with fail
    have HN32 := Aside0.mk (heap_alloc_new V31 (.cells #[.slice A1 ka.length c1, .slice (some ⟨s31, 0, none⟩) 1 1, .slice B1 kb.length e1] 22))
    have hb32 := Aside0.mk (below_mk (Below.refl V31.heap.size V31) (.cells #[.slice A1 ka.length c1, .slice (some ⟨s31, 0, none⟩) 1 1, .slice B1 kb.length e1] 22))
    have HN303132 := Aside0.mk ((hb32.out.block _ (blk_lt HN3031.out)).trans HN3031.out)
    have HN3132 := Aside0.mk ((hb32.out.block _ (blk_lt HN31.out)).trans HN31.out)
    have HG32 := Aside0.mk (gb_below hb32.out HG31.out)
    have HR32 : Aside0 (ResBox w.heap.size (V31.alloc (.cells #[.slice A1 ka.length c1, .slice (some ⟨s31, 0, none⟩) 1 1, .slice B1 kb.length e1] 22))) := ⟨(hb32.out.block _ (blk_lt HR31.out)).trans HR31.out⟩
    refine hK.out _ _ (HSK.out _ HG32.out) (fun hHeld2 => ?_)
    clear hK hHeld K
    have hHeld := hHeld2
    clear hHeld2
    try simp only [Act.put, List.setIfInBounds_toArray, List.set_cons_zero, List.set_cons_succ, List.getElem_toArray, List.getElem_cons_zero, List.getElem_cons_succ]
    obtain ⟨s32, es32⟩ : ∃ s, s = V31.heap.size := ⟨_, rfl⟩
    rw [← es32] at HN32 ⊢
    clear es32 hb32
    generalize V31.alloc (.cells #[.slice A1 ka.length c1, .slice (some ⟨s31, 0, none⟩) 1 1, .slice B1 kb.length e1] 22) = V32 at *
    refine wpAnyH_ready (rs := [12]) (by kernel_rfl) (by simp) ?_
    refine AllReadyH.cons (by rfl) (fun K hK => ?_) AllReadyH.nil
    rw [if_pos (by rfl)]
    go_wp2_with fail
    refine (JC1.out _ _ _ (gb_old HB2.out HG32.out) HN32.out HN3132.out).mono ?_
    rintro e V33 ⟨v33, rfl, ho33, hb33⟩
    obtain ⟨AA33, dd33, rfl, _, hm33, _, _⟩ := own_cells ho33
    have hl33 : w.heap.size < V32.heap.size := blk_lt HR32.out
    have HN30313233 := Aside0.mk ((hb33.block _ (blk_lt HN303132.out)).trans HN303132.out)
    have HN313233 := Aside0.mk ((hb33.block _ (blk_lt HN3132.out)).trans HN3132.out)
    have HN3233 := Aside0.mk ((hb33.block _ (blk_lt HN32.out)).trans HN32.out)
    have HG33 := Aside0.mk (gb_below hb33 HG32.out)
    have HR33 : Aside0 (ResBox w.heap.size V33) := ⟨(hb33.block _ (blk_lt HR32.out)).trans HR32.out⟩
    have HO33 := Aside0.mk ho33
    clear ho33 hb33
    refine hK.out _ _ (HSK.out _ HG33.out) (fun hHeld2 => ?_)
    clear hK hHeld K
    have hHeld := hHeld2
    clear hHeld2
    try simp only [Act.put, List.setIfInBounds_toArray, List.set_cons_zero, List.set_cons_succ, List.getElem_toArray, List.getElem_cons_zero, List.getElem_cons_succ]
    refine wpAnyH_ready (rs := [22]) (by kernel_rfl) (by simp) ?_
    refine AllReadyH.cons (by rfl) (fun K hK => ?_) AllReadyH.nil
    rw [if_pos (by rfl)]
    go_wp2_with fail
    refine (JC2.out _ _ (gb_old HB2.out HG33.out) HN30313233.out).mono ?_
    rintro e V34 ⟨v34, rfl, ho34, hb34⟩
    obtain ⟨AA34, dd34, rfl, _, hm34, _, _⟩ := own_cells ho34
    have hl34 : w.heap.size < V33.heap.size := blk_lt HR33.out
    have HN3031323334 := Aside0.mk ((hb34.block _ (blk_lt HN30313233.out)).trans HN30313233.out)
    have HN31323334 := Aside0.mk ((hb34.block _ (blk_lt HN313233.out)).trans HN313233.out)
    have HN323334 := Aside0.mk ((hb34.block _ (blk_lt HN3233.out)).trans HN3233.out)
    have HO3334 := Aside0.mk (pw_own_below HO33.out hb34)
    have HG34 := Aside0.mk (gb_below hb34 HG33.out)
    have HR34 : Aside0 (ResBox w.heap.size V34) := ⟨(hb34.block _ (blk_lt HR33.out)).trans HR33.out⟩
    have HO34 := Aside0.mk ho34
    clear ho34 hb34
    refine hK.out _ _ (HSK.out _ HG34.out) (fun hHeld2 => ?_)
    clear hK hHeld K
    have hHeld := hHeld2
    clear hHeld2
    try simp only [Act.put, List.setIfInBounds_toArray, List.set_cons_zero, List.set_cons_succ, List.getElem_toArray, List.getElem_cons_zero, List.getElem_cons_succ]
    refine wpAnyH_ready (rs := [23]) (by kernel_rfl) (by simp) ?_
    refine AllReadyH.cons (by rfl) (fun K hK => ?_) AllReadyH.nil
    rw [if_pos (by rfl)]
    go_wp2_with fail
    refine (HH.out _ _ _ _ _ _ _ (gb_old HB2.out HG34.out) (blk_lt HR34.out) hl33 hl34 HO3334.out HO34.out).mono ?_
    rintro e w5 hP
    obtain ⟨ty, bx, ty2, bx2, rfl, hb5, hfin⟩ := split_some hP (gb_old HB2.out HG34.out)
    have HG5 := Aside0.mk (gb_below hb5 HG34.out)
    obtain ⟨⟨q0, q1, q2⟩, p0, p1, p2⟩ := ResBox.cells ((hb5.block _ (blk_lt HR34.out)).trans HR34.out)
    have HFIN := Aside0.mk hfin
    clear hfin hP hb5
    refine hK.out _ _ (HSK.out _ HG5.out) (fun hHeld2 => ?_)
    clear hK hHeld K
    have hHeld := hHeld2
    clear hHeld2
    try simp only [Act.put, List.setIfInBounds_toArray, List.set_cons_zero, List.set_cons_succ, List.getElem_toArray, List.getElem_cons_zero, List.getElem_cons_succ]
    refine wpAnyH_ready (rs := [24]) (by kernel_rfl) (by simp) ?_
    refine AllReadyH.cons (by rfl) (fun K hK => ?_) AllReadyH.nil
    rw [if_pos (by rfl)]
    go_wp2_with fail
    refine hK.out _ _ (HSK.out _ (gb_set (gb_set (gb_set HG5.out _ _) _ _) _ _)) (fun hHeld2 => ?_)
    clear hK hHeld hHeld2 K
    try simp only [Act.put, List.setIfInBounds_toArray, List.set_cons_zero, List.set_cons_succ, List.getElem_toArray, List.getElem_cons_zero, List.getElem_cons_succ]
    refine wpAnyH_done (by kernel_rfl) ?_ _
    go_wp2
    refine bodyPost_ret (v := .agg #[.iface ty (.pointer (some ⟨bx, 0, none⟩)), .string mid2, .iface ty2 (.pointer (some ⟨bx2, 0, none⟩))]) (by simp [results, Try.results79, go_sem, q0, q1, q2]) rfl ?_
    exact HFIN.out
end Go.Proofs.Ytjabcdfbncglnaa
