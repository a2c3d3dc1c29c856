/- WHAT IS PROVED: joined makes two leaves to one, or to two that have alike much. -/
import Derived.Test.YtjabcdfbncglnaaLB4
import Derived.Test.YtjabcdfbncglnaaLB5
import Derived.Deep.RegionHeld3
namespace Go.Proofs.Ytjabcdfbncglnaa
open Go.RowKit Go.Proofs.YtjabcdfbncglnaaW.PrintWords Go.Proofs.YtjabcdfbncglnaaW.PrintLast Go.Proofs.YtjabcdfbncglnaaW.PrintMore
open PTreeRanks (S59 k59 z59)
set_option linter.unusedVariables false
set_option linter.unusedSimpArgs false

theorem raw_rows {w W : World} {A : Option Addr} {vs : List Value} (hb : Below w.heap.size w W) (hA : 0 < vs.length → ∃ ad, A = some ad ∧ ∀ j u, vs[j]? = some u → w.cell? (ad.add j) = some u) : 0 < vs.length → ∃ ad, A = some ad ∧ ∀ j u, vs[j]? = some u → W.cell? (ad.add j) = some u := fun h => by
  obtain ⟨ad, e, hc⟩ := hA h
  exact ⟨ad, e, cells_later hc hb⟩

set_option maxRecDepth 100000 in
set_option maxHeartbeats 8000000 in
theorem joined_leaf {la lb : List S59} {w : World} {ok : Nat → Prop} {bt order : Nat} {va vb : Value} (mid : ByteArray) (h0 : w.cell? ⟨bt, 0, none⟩ = some (.int .i64 order)) (ho3 : 3 ≤ order) (hMa : (NK 0).M w 0 ok la [va]) (hMb : (NK 0).M w 0 ok lb [vb]) (hl : la.length + lb.length ≤ 900) (hok : ∀ k, w.heap.size ≤ k → ok k) :
    Calls Try.prog 79 #[.pointer (some ⟨bt, 0, none⟩), va, .string mid, vb] w (SplitPost 0 (halveLeafT order (la ++ lb)) ok w) := by
  obtain ⟨ba, kv, vv, rfl, hb, hh, hk, hv⟩ := leaf_M.1 (M_off hMa)
  obtain ⟨bb, kv2, vv2, rfl, hb2, hh2, hk2, hv2⟩ := leaf_M.1 (M_off hMb)
  obtain ⟨hko, hkb⟩ := SRow_own hk
  obtain ⟨hvo, hvb⟩ := IRow_own hv
  obtain ⟨hko2, hkb2⟩ := SRow_own hk2
  obtain ⟨hvo2, hvb2⟩ := IRow_own hv2
  obtain ⟨A1, c1, rfl, hkc, hkc2, _, hkA⟩ := own_cells hko
  obtain ⟨A2, c2, rfl, hvc, hvc2, _, hvA⟩ := own_cells hvo
  obtain ⟨B1, e1, rfl, hkc', hkc2', _, hkA'⟩ := own_cells hko2
  obtain ⟨B2, e2, rfl, hvc', hvc2', _, hvA'⟩ := own_cells hvo2
  simp only [List.length_map] at hkc hkA hvc hvA hh hkc' hkA' hvc' hvA' hh2
  have x0 : w.cell? ⟨ba, 0, none⟩ = some (.slice A1 la.length c1) := (blk_cell hh 0).trans rfl
  have x1 : w.cell? ⟨ba, 1, none⟩ = some (.slice A2 la.length c2) := (blk_cell hh 1).trans rfl
  have x2 : w.cell? ⟨bb, 0, none⟩ = some (.slice B1 lb.length e1) := (blk_cell hh2 0).trans rfl
  have x3 : w.cell? ⟨bb, 1, none⟩ = some (.slice B2 lb.length e2) := (blk_cell hh2 1).trans rfl
  have HOK : Aside0 (∀ k, w.heap.size < k → ok k ∧ k ≠ w.heap.size) := ⟨fun k h => ⟨hok k (Nat.le_of_lt h), by omega⟩⟩
  have JC1 : Aside0 (∀ (W : World) (vb : Nat), Below w.heap.size w W → W.heap[vb]? = some (.cells #[.slice A1 la.length c1, .slice B1 lb.length e1] 22 (0, 0)) → Calls Try.prog 87 #[.slice (some ⟨vb, 0, none⟩) 2 2] W fun e w' => ∃ v', e = .returned v' ∧ w'.ownsRow W.heap.size 9 1 v' (la.length + lb.length) (((la ++ lb).map S59.f0).map Value.string) ∧ Below W.heap.size W w') := ⟨fun W vb hW hh => by
    have := concat_str vb [(A1, c1, (la.map S59.f0).map Value.string), (B1, e1, (lb.map S59.f0).map Value.string)] W (fun k h => by
      match k, h with
      | 0, _ => simpa using (blk_cell hh 0).trans rfl
      | 1, _ => simpa using (blk_cell hh 1).trans rfl
      | k + 2, h => simp at h; omega) (fun r hr => by
      simp at hr
      rcases hr with rfl | rfl
      · exact ⟨raw_rows hW (by simpa using hkA), fun u hu => by obtain ⟨y, _, rfl⟩ := List.mem_map.1 hu; rfl⟩
      · exact ⟨raw_rows hW (by simpa using hkA'), fun u hu => by obtain ⟨y, _, rfl⟩ := List.mem_map.1 hu; rfl⟩) (by simp) (by simp; omega)
    simpa using this⟩
  have JC2 : Aside0 (∀ (W : World) (vb : Nat), Below w.heap.size w W → W.heap[vb]? = some (.cells #[.slice A2 la.length c2, .slice B2 lb.length e2] 83 (0, 0)) → Calls Try.prog 88 #[.slice (some ⟨vb, 0, none⟩) 2 2] W fun e w' => ∃ v', e = .returned v' ∧ w'.ownsRow W.heap.size 2 1 v' (la.length + lb.length) (((la ++ lb).map S59.f1).map (Value.int .i64)) ∧ Below W.heap.size W w') := ⟨fun W vb hW hh => by
    have := concat_int vb [(A2, c2, (la.map S59.f1).map (Value.int .i64)), (B2, e2, (lb.map S59.f1).map (Value.int .i64))] W (fun k h => by
      match k, h with
      | 0, _ => simpa using (blk_cell hh 0).trans rfl
      | 1, _ => simpa using (blk_cell hh 1).trans rfl
      | k + 2, h => simp at h; omega) (fun r hr => by
      simp at hr
      rcases hr with rfl | rfl
      · exact ⟨raw_rows hW (by simpa using hvA), fun u hu => by obtain ⟨y, _, rfl⟩ := List.mem_map.1 hu; rfl⟩
      · exact ⟨raw_rows hW (by simpa using hvA'), fun u hu => by obtain ⟨y, _, rfl⟩ := List.mem_map.1 hu; rfl⟩) (by simp) (by simp; omega)
    simpa using this⟩
  have HB0 := Aside0.mk h0
  have HH : Aside0 (∀ (W : World) (nb b1 b2 n1 n2 : Nat) (v1 v2 : Value), Below w.heap.size w W → w.heap.size < W.heap.size → w.heap.size < b1 → w.heap.size < b2 → w.heap.size < nb → W.heap[nb]? = some (.cells #[v1, v2] 85 (0, 0)) →
      W.ownsRow b1 9 1 v1 n1 (((la ++ lb).map S59.f0).map Value.string) → W.ownsRow b2 2 1 v2 n2 (((la ++ lb).map S59.f1).map (Value.int .i64)) →
      Calls Try.prog 58 #[.pointer (some ⟨bt, 0, none⟩), .pointer (some ⟨nb, 0, none⟩)] W (SplitPost 0 (halveLeafT order (la ++ lb)) (fun k => ok k ∧ k ≠ w.heap.size) W)) :=
    ⟨fun W nb b1 b2 n1 n2 v1 v2 hW hs h1 h2 h3 hh hr1 hr2 => halveLeaf_calls (pw_cell_below hW HB0.out)
      (leaf_M.2 ⟨nb, v1, v2, rfl, HOK.out nb h3, hh, SRow_mk hr1 (fun k h => HOK.out k (by omega)), IRow_mk hr2 (fun k h => HOK.out k (by omega))⟩) (by omega)
      (by rw [List.length_append]; omega) (fun k h => HOK.out k (by omega))⟩
  have HB1 := Aside0.mk (below_mk (Below.refl w.heap.size w) (.cells #[.nilIface, .string ⟨#[]⟩, .nilIface] 107))
  have HR1 : Aside0 (ResBox w.heap.size (w.alloc (.cells #[.nilIface, .string ⟨#[]⟩, .nilIface] 107))) := ⟨heap_alloc_new w _⟩
  have k1 := ta_leaf
  have k2 := ta_leaf_no
  clear hh hh2 hk hv hk2 hv2 hko hvo hko2 hvo2 hkA hvA hkA' hvA' hMa hMb h0 hok hkb hvb hkb2 hvb2
  generalize halveLeafT order (la ++ lb) = sp at *
  have HB2 : Aside0 (Below w.heap.size w (w.alloc (.cells #[.nilIface, .string ⟨#[]⟩, .nilIface] 107)).drew) := ⟨below_drew HB1.out⟩
  have HR2 : Aside0 (ResBox w.heap.size (w.alloc (.cells #[.nilIface, .string ⟨#[]⟩, .nilIface] 107)).drew) := ⟨HR1.out⟩
  obtain ⟨s1, _ | ⟨mid2, s2⟩⟩ := sp
  · go_enter Try.func79, Try.ntmps79
    go_wp2
    obtain ⟨W0, hW0⟩ : ∃ W0, (w.alloc (.cells #[.nilIface, .string ⟨#[]⟩, .nilIface] 107)).drew = W0 := ⟨_, rfl⟩
    rw [hW0] at HB2 HR2
    have HSK : Aside0 (∀ W, W0.grownBy W (some w.heap.size) → (W.cell? ⟨ba, 0, none⟩ = some (.slice A1 la.length c1) ∧ W.cell? ⟨ba, 1, none⟩ = some (.slice A2 la.length c2) ∧ W.cell? ⟨bb, 0, none⟩ = some (.slice B1 lb.length e1) ∧ W.cell? ⟨bb, 1, none⟩ = some (.slice B2 lb.length e2)) ∧ W0.grownBy W (some w.heap.size)) := ⟨fun W hW => ⟨⟨pw_cell_below (gb_old HB2.out hW) x0, pw_cell_below (gb_old HB2.out hW) x1, pw_cell_below (gb_old HB2.out hW) x2, pw_cell_below (gb_old HB2.out hW) x3⟩, hW⟩⟩
    clear x0 x1 x2 x3
    have HW0 := Aside0.mk hW0
    clear hW0
    refine wp_region_held_drew (S := fun W' => (W'.cell? ⟨ba, 0, none⟩ = some (.slice A1 la.length c1) ∧ W'.cell? ⟨ba, 1, none⟩ = some (.slice A2 la.length c2) ∧ W'.cell? ⟨bb, 0, none⟩ = some (.slice B1 lb.length e1) ∧ W'.cell? ⟨bb, 1, none⟩ = some (.slice B2 lb.length e2)) ∧ W0.grownBy W' (some w.heap.size)) (by kernel_rfl) (HSK.out _ (by rw [HW0.out]; exact grownBy_refl _ _)) (fun hHeld => ?_)
    rw [HW0.out] at hHeld ⊢
    clear HW0
    refine wpAnyH_take (i := 0) (v := ?v0n) rfl (by kernel_rfl) (by kernel_rfl) (by kernel_rfl) (fun _ _ _ h => h) (Or.inl ⟨by rfl, fun wq hSw => ?y0n⟩) (by assumption) ?r0n
    case y0n => ((try dsimp only at hSw); go_simp; try with_reducible rfl)
    try simp only [Act.put, List.setIfInBounds_toArray, List.set_cons_zero, List.set_cons_succ, List.getElem_toArray, List.getElem_cons_zero, List.getElem_cons_succ]
    refine wpAnyH_take (i := 1) (v := ?v1n) rfl (by kernel_rfl) (by kernel_rfl) (by kernel_rfl) (fun _ _ _ h => h) (Or.inl ⟨by rfl, fun wq hSw => ?y1n⟩) (by assumption) ?r1n
    case y1n => ((try dsimp only at hSw); go_simp; try with_reducible rfl)
    try simp only [Act.put, List.setIfInBounds_toArray, List.set_cons_zero, List.set_cons_succ, List.getElem_toArray, List.getElem_cons_zero, List.getElem_cons_succ]
    refine wpAnyH_take (i := 2) (v := ?v2n) rfl (by kernel_rfl) (by kernel_rfl) (by kernel_rfl) (fun _ _ _ h => h) (Or.inl ⟨by rfl, fun wq hSw => ?y2n⟩) (by assumption) ?r2n
    case y2n => ((try dsimp only at hSw); go_simp; try with_reducible rfl)
    try simp only [Act.put, List.setIfInBounds_toArray, List.set_cons_zero, List.set_cons_succ, List.getElem_toArray, List.getElem_cons_zero, List.getElem_cons_succ]
    refine wpAnyH_take (i := 3) (v := ?v3n) rfl (by kernel_rfl) (by kernel_rfl) (by kernel_rfl) (fun _ _ _ h => h) (Or.inl ⟨by rfl, fun wq hSw => ?y3n⟩) (by assumption) ?r3n
    case y3n => ((try dsimp only at hSw); go_simp; try with_reducible rfl)
    try simp only [Act.put, List.setIfInBounds_toArray, List.set_cons_zero, List.set_cons_succ, List.getElem_toArray, List.getElem_cons_zero, List.getElem_cons_succ]
    refine wpAnyH_take (i := 4) (v := ?v4n) rfl (by kernel_rfl) (by kernel_rfl) (by kernel_rfl) (fun _ _ _ h => h) (Or.inl ⟨by rfl, fun wq hSw => ?y4n⟩) (by assumption) ?r4n
    case y4n => ((try dsimp only at hSw); go_simp; try with_reducible rfl)
    try simp only [Act.put, List.setIfInBounds_toArray, List.set_cons_zero, List.set_cons_succ, List.getElem_toArray, List.getElem_cons_zero, List.getElem_cons_succ]
    refine wpAnyH_take (i := 5) (v := ?v5n) rfl (by kernel_rfl) (by kernel_rfl) (by kernel_rfl) (fun _ _ _ h => h) (Or.inl ⟨by rfl, fun wq hSw => ?y5n⟩) (by assumption) ?r5n
    case y5n => ((try dsimp only at hSw); go_simp; try with_reducible rfl)
    try simp only [Act.put, List.setIfInBounds_toArray, List.set_cons_zero, List.set_cons_succ, List.getElem_toArray, List.getElem_cons_zero, List.getElem_cons_succ]
    refine wpAnyH_take (i := 6) (v := ?v6n) rfl (by kernel_rfl) (by kernel_rfl) (by kernel_rfl) (fun _ _ _ h => h) (Or.inl ⟨by rfl, fun wq hSw => ?y6n⟩) (by assumption) ?r6n
    case y6n => ((try dsimp only at hSw); go_simp; try with_reducible rfl)
    try simp only [Act.put, List.setIfInBounds_toArray, List.set_cons_zero, List.set_cons_succ, List.getElem_toArray, List.getElem_cons_zero, List.getElem_cons_succ]
    refine wpAnyH_take (i := 7) (v := ?v7n) rfl (by kernel_rfl) (by kernel_rfl) (by kernel_rfl) (fun _ _ _ h => h) (Or.inl ⟨by rfl, fun wq hSw => ?y7n⟩) (by assumption) ?r7n
    case y7n => ((try dsimp only at hSw); go_simp; try with_reducible rfl)
    try simp only [Act.put, List.setIfInBounds_toArray, List.set_cons_zero, List.set_cons_succ, List.getElem_toArray, List.getElem_cons_zero, List.getElem_cons_succ]
    refine wpAnyH_take (i := 8) (v := ?v8n) rfl (by kernel_rfl) (by kernel_rfl) (by kernel_rfl) (fun _ _ _ h => h) (Or.inl ⟨by rfl, fun wq hSw => ?y8n⟩) (by assumption) ?r8n
    case y8n => ((try dsimp only at hSw); go_simp; try with_reducible rfl)
    try simp only [Act.put, List.setIfInBounds_toArray, List.set_cons_zero, List.set_cons_succ, List.getElem_toArray, List.getElem_cons_zero, List.getElem_cons_succ]
    refine wpAnyH_take (i := 11) (v := ?v11n) rfl (by kernel_rfl) (by kernel_rfl) (by kernel_rfl) (fun _ _ _ h => h) (Or.inl ⟨by rfl, fun wq hSw => ?y11n⟩) (by assumption) ?r11n
    case y11n => ((try dsimp only at hSw); go_simp; try with_reducible rfl)
    try simp only [Act.put, List.setIfInBounds_toArray, List.set_cons_zero, List.set_cons_succ, List.getElem_toArray, List.getElem_cons_zero, List.getElem_cons_succ]
    refine wpAnyH_take (i := 12) (v := ?v12n) rfl (by kernel_rfl) (by kernel_rfl) (by kernel_rfl) (fun _ _ _ h => h) (Or.inl ⟨by rfl, fun wq hSw => ?y12n⟩) (by assumption) ?r12n
    case y12n => ((try dsimp only at hSw); go_simp; try with_reducible rfl)
    try simp only [Act.put, List.setIfInBounds_toArray, List.set_cons_zero, List.set_cons_succ, List.getElem_toArray, List.getElem_cons_zero, List.getElem_cons_succ]
    refine wpAnyH_take (i := 13) (v := ?v13n) rfl (by kernel_rfl) (by kernel_rfl) (by kernel_rfl) (fun _ _ _ h => h) (Or.inl ⟨by rfl, fun wq hSw => ?y13n⟩) (by assumption) ?r13n
    case y13n => ((try dsimp only at hSw); go_simp; try with_reducible rfl)
    try simp only [Act.put, List.setIfInBounds_toArray, List.set_cons_zero, List.set_cons_succ, List.getElem_toArray, List.getElem_cons_zero, List.getElem_cons_succ]
    refine wpAnyH_take (i := 14) (v := ?v14n) rfl (by kernel_rfl) (by kernel_rfl) (by kernel_rfl) (fun _ _ _ h => h) (Or.inl ⟨by rfl, fun wq hSw => ?y14n⟩) (by assumption) ?r14n
    case y14n => ((try dsimp only at hSw); go_simp; try with_reducible rfl)
    try simp only [Act.put, List.setIfInBounds_toArray, List.set_cons_zero, List.set_cons_succ, List.getElem_toArray, List.getElem_cons_zero, List.getElem_cons_succ]
    refine wpAnyH_take (i := 15) (v := ?v15n) rfl (by kernel_rfl) (by kernel_rfl) (by kernel_rfl) (fun _ _ _ h => h) (Or.inl ⟨by rfl, fun wq hSw => ?y15n⟩) (by assumption) ?r15n
    case y15n => ((try dsimp only at hSw); go_simp; try with_reducible rfl)
    try simp only [Act.put, List.setIfInBounds_toArray, List.set_cons_zero, List.set_cons_succ, List.getElem_toArray, List.getElem_cons_zero, List.getElem_cons_succ]
    refine wpAnyH_take (i := 16) (v := ?v16n) rfl (by kernel_rfl) (by kernel_rfl) (by kernel_rfl) (fun _ _ _ h => h) (Or.inl ⟨by rfl, fun wq hSw => ?y16n⟩) (by assumption) ?r16n
    case y16n => ((try dsimp only at hSw); go_simp; try with_reducible rfl)
    try simp only [Act.put, List.setIfInBounds_toArray, List.set_cons_zero, List.set_cons_succ, List.getElem_toArray, List.getElem_cons_zero, List.getElem_cons_succ]
    refine wpAnyH_take (i := 17) (v := ?v17n) rfl (by kernel_rfl) (by kernel_rfl) (by kernel_rfl) (fun _ _ _ h => h) (Or.inl ⟨by rfl, fun wq hSw => ?y17n⟩) (by assumption) ?r17n
    case y17n => ((try dsimp only at hSw); go_simp; try with_reducible rfl)
    try simp only [Act.put, List.setIfInBounds_toArray, List.set_cons_zero, List.set_cons_succ, List.getElem_toArray, List.getElem_cons_zero, List.getElem_cons_succ]
    refine wpAnyH_take (i := 18) (v := ?v18n) rfl (by kernel_rfl) (by kernel_rfl) (by kernel_rfl) (fun _ _ _ h => h) (Or.inl ⟨by rfl, fun wq hSw => ?y18n⟩) (by assumption) ?r18n
    case y18n => ((try dsimp only at hSw); go_simp; try with_reducible rfl)
    try simp only [Act.put, List.setIfInBounds_toArray, List.set_cons_zero, List.set_cons_succ, List.getElem_toArray, List.getElem_cons_zero, List.getElem_cons_succ]
    have HGR := Aside0.mk (grownBy_refl W0 (some w.heap.size))
    refine wpAnyH_ready (rs := [9, 19]) (by kernel_rfl) (by simp) ?_
    refine AllReadyH.cons (by rfl) (fun K hK => ?_) ?_
    · rw [if_pos (by rfl)]
      go_wp2_with fail
      have HN1 := Aside0.mk (heap_alloc_new W0 (.cells #[.slice A1 la.length c1, .slice B1 lb.length e1] 22))
      have hb1 := Aside0.mk (below_mk (Below.refl W0.heap.size W0) (.cells #[.slice A1 la.length c1, .slice B1 lb.length e1] 22))
      have HG1 := Aside0.mk (gb_below hb1.out HGR.out)
      have HR1 : Aside0 (ResBox w.heap.size (W0.alloc (.cells #[.slice A1 la.length c1, .slice B1 lb.length e1] 22))) := ⟨(hb1.out.block _ (blk_lt HR2.out)).trans HR2.out⟩
      refine hK.out _ _ (HSK.out _ HG1.out) (fun hHeld2 => ?_)
      clear hK hHeld K
      have hHeld := hHeld2
      clear hHeld2
      try simp only [Act.put, List.setIfInBounds_toArray, List.set_cons_zero, List.set_cons_succ, List.getElem_toArray, List.getElem_cons_zero, List.getElem_cons_succ]
      obtain ⟨s1, es1⟩ : ∃ s, s = W0.heap.size := ⟨_, rfl⟩
      rw [← es1] at HN1 ⊢
      clear es1 hb1
      generalize W0.alloc (.cells #[.slice A1 la.length c1, .slice B1 lb.length e1] 22) = V1 at *
      refine wpAnyH_ready (rs := [10, 19]) (by kernel_rfl) (by simp) ?_
      refine AllReadyH.cons (by rfl) (fun K hK => ?_) ?_
      · rw [if_pos (by rfl)]
        go_wp2_with fail
        refine (JC1.out _ _ (gb_old HB2.out HG1.out) HN1.out).mono ?_
        rintro e V2 ⟨v2, rfl, ho2, hb2⟩
        obtain ⟨AA2, dd2, rfl, _, hm2, _, _⟩ := own_cells ho2
        have hl2 : w.heap.size < V1.heap.size := blk_lt HR1.out
        have HN12 := Aside0.mk ((hb2.block _ (blk_lt HN1.out)).trans HN1.out)
        have HG2 := Aside0.mk (gb_below hb2 HG1.out)
        have HR2 : Aside0 (ResBox w.heap.size V2) := ⟨(hb2.block _ (blk_lt HR1.out)).trans HR1.out⟩
        have HO2 := Aside0.mk ho2
        clear ho2 hb2
        refine hK.out _ _ (HSK.out _ HG2.out) (fun hHeld2 => ?_)
        clear hK hHeld K
        have hHeld := hHeld2
        clear hHeld2
        try simp only [Act.put, List.setIfInBounds_toArray, List.set_cons_zero, List.set_cons_succ, List.getElem_toArray, List.getElem_cons_zero, List.getElem_cons_succ]
        refine wpAnyH_ready (rs := [19]) (by kernel_rfl) (by simp) ?_
        refine AllReadyH.cons (by rfl) (fun K hK => ?_) AllReadyH.nil
        rw [if_pos (by rfl)]
        go_wp2_with fail
        have HN3 := Aside0.mk (heap_alloc_new V2 (.cells #[.slice A2 la.length c2, .slice B2 lb.length e2] 83))
        have hb3 := Aside0.mk (below_mk (Below.refl V2.heap.size V2) (.cells #[.slice A2 la.length c2, .slice B2 lb.length e2] 83))
        have HN123 := Aside0.mk ((hb3.out.block _ (blk_lt HN12.out)).trans HN12.out)
        have HO23 := Aside0.mk (pw_own_below HO2.out hb3.out)
        have HG3 := Aside0.mk (gb_below hb3.out HG2.out)
        have HR3 : Aside0 (ResBox w.heap.size (V2.alloc (.cells #[.slice A2 la.length c2, .slice B2 lb.length e2] 83))) := ⟨(hb3.out.block _ (blk_lt HR2.out)).trans HR2.out⟩
        refine hK.out _ _ (HSK.out _ HG3.out) (fun hHeld2 => ?_)
        clear hK hHeld K
        have hHeld := hHeld2
        clear hHeld2
        try simp only [Act.put, List.setIfInBounds_toArray, List.set_cons_zero, List.set_cons_succ, List.getElem_toArray, List.getElem_cons_zero, List.getElem_cons_succ]
        obtain ⟨s3, es3⟩ : ∃ s, s = V2.heap.size := ⟨_, rfl⟩
        rw [← es3] at HN3 ⊢
        clear es3 hb3
        generalize V2.alloc (.cells #[.slice A2 la.length c2, .slice B2 lb.length e2] 83) = V3 at *
        refine wpAnyH_ready (rs := [20]) (by kernel_rfl) (by simp) ?_
        refine AllReadyH.cons (by rfl) (fun K hK => ?_) AllReadyH.nil
        rw [if_pos (by rfl)]
        go_wp2_with fail
        refine (JC2.out _ _ (gb_old HB2.out HG3.out) HN3.out).mono ?_
        rintro e V4 ⟨v4, rfl, ho4, hb4⟩
        obtain ⟨AA4, dd4, rfl, _, hm4, _, _⟩ := own_cells ho4
        have hl4 : w.heap.size < V3.heap.size := blk_lt HR3.out
        have HN1234 := Aside0.mk ((hb4.block _ (blk_lt HN123.out)).trans HN123.out)
        have HN34 := Aside0.mk ((hb4.block _ (blk_lt HN3.out)).trans HN3.out)
        have HO234 := Aside0.mk (pw_own_below HO23.out hb4)
        have HG4 := Aside0.mk (gb_below hb4 HG3.out)
        have HR4 : Aside0 (ResBox w.heap.size V4) := ⟨(hb4.block _ (blk_lt HR3.out)).trans HR3.out⟩
        have HO4 := Aside0.mk ho4
        clear ho4 hb4
        refine hK.out _ _ (HSK.out _ HG4.out) (fun hHeld2 => ?_)
        clear hK hHeld K
        have hHeld := hHeld2
        clear hHeld2
        try simp only [Act.put, List.setIfInBounds_toArray, List.set_cons_zero, List.set_cons_succ, List.getElem_toArray, List.getElem_cons_zero, List.getElem_cons_succ]
        refine wpAnyH_take (i := 21) (v := ?v21z5) rfl (by kernel_rfl) (by kernel_rfl) (by kernel_rfl) (fun _ _ _ h => h) (Or.inl ⟨by rfl, fun wq hSw => ?y21z5⟩) (by assumption) ?r21z5
        case y21z5 => ((try dsimp only at hSw); go_simp; try with_reducible rfl)
        try simp only [Act.put, List.setIfInBounds_toArray, List.set_cons_zero, List.set_cons_succ, List.getElem_toArray, List.getElem_cons_zero, List.getElem_cons_succ]
        refine wpAnyH_ready (rs := [22]) (by kernel_rfl) (by simp) ?_
        refine AllReadyH.cons (by rfl) (fun K hK => ?_) AllReadyH.nil
        rw [if_pos (by rfl)]
        go_wp2_with fail
        have hn5 := Aside0.mk (heap_alloc_new V4 (.cells #[.slice AA2 (la.length + lb.length) dd2, .slice AA4 (la.length + lb.length) dd4] 85))
        have hb5 := Aside0.mk (below_mk (Below.refl V4.heap.size V4) (.cells #[.slice AA2 (la.length + lb.length) dd2, .slice AA4 (la.length + lb.length) dd4] 85))
        have hl5 : w.heap.size < V4.heap.size := blk_lt HR4.out
        have HK5 := Aside0.mk (pw_own_below HO234.out hb5.out)
        have HV5 := Aside0.mk (pw_own_below HO4.out hb5.out)
        have HG5 := Aside0.mk (gb_below hb5.out HG4.out)
        have HR5 : Aside0 (ResBox w.heap.size (V4.alloc (.cells #[.slice AA2 (la.length + lb.length) dd2, .slice AA4 (la.length + lb.length) dd4] 85))) := ⟨(hb5.out.block _ (blk_lt HR4.out)).trans HR4.out⟩
        refine hK.out _ _ (HSK.out _ HG5.out) (fun hHeld2 => ?_)
        clear hK hHeld K
        have hHeld := hHeld2
        clear hHeld2
        try simp only [Act.put, List.setIfInBounds_toArray, List.set_cons_zero, List.set_cons_succ, List.getElem_toArray, List.getElem_cons_zero, List.getElem_cons_succ]
        obtain ⟨s5, es5⟩ : ∃ s, s = V4.heap.size := ⟨_, rfl⟩
        rw [← es5] at hn5 hl5 ⊢
        clear es5 hb5
        generalize V4.alloc (.cells #[.slice AA2 (la.length + lb.length) dd2, .slice AA4 (la.length + lb.length) dd4] 85) = V5 at *
        refine wpAnyH_ready (rs := [23]) (by kernel_rfl) (by simp) ?_
        refine AllReadyH.cons (by rfl) (fun K hK => ?_) AllReadyH.nil
        rw [if_pos (by rfl)]
        go_wp2_with fail
        refine (HH.out _ _ _ _ _ _ _ _ (gb_old HB2.out HG5.out) (blk_lt HR5.out) hl2 hl4 hl5 hn5.out HK5.out HV5.out).mono ?_
        rintro e w5 hP
        obtain ⟨ty, bx, rfl, hb5, hfin⟩ := split_none hP (gb_old HB2.out HG5.out)
        have HG5 := Aside0.mk (gb_below hb5 HG5.out)
        obtain ⟨⟨q0, q1, q2⟩, p0, p1, p2⟩ := ResBox.cells ((hb5.block _ (blk_lt HR5.out)).trans HR5.out)
        have HFIN := Aside0.mk hfin
        clear hfin hP hb5
        refine hK.out _ _ (HSK.out _ HG5.out) (fun hHeld2 => ?_)
        clear hK hHeld K
        have hHeld := hHeld2
        clear hHeld2
        try simp only [Act.put, List.setIfInBounds_toArray, List.set_cons_zero, List.set_cons_succ, List.getElem_toArray, List.getElem_cons_zero, List.getElem_cons_succ]
        refine wpAnyH_ready (rs := [24]) (by kernel_rfl) (by simp) ?_
        refine AllReadyH.cons (by rfl) (fun K hK => ?_) AllReadyH.nil
        rw [if_pos (by rfl)]
        go_wp2_with fail
        refine hK.out _ _ (HSK.out _ (gb_set (gb_set (gb_set HG5.out _ _) _ _) _ _)) (fun hHeld2 => ?_)
        clear hK hHeld hHeld2 K
        try simp only [Act.put, List.setIfInBounds_toArray, List.set_cons_zero, List.set_cons_succ, List.getElem_toArray, List.getElem_cons_zero, List.getElem_cons_succ]
        refine wpAnyH_done (by kernel_rfl) ?_ _
        go_wp2
        refine bodyPost_ret (v := .agg #[.iface ty (.pointer (some ⟨bx, 0, none⟩)), .string ⟨#[]⟩, .nilIface]) (by simp [results, Try.results79, go_sem, q0, q1, q2]) rfl ?_
        exact HFIN.out
      refine AllReadyH.cons (by rfl) (fun K hK => ?_) AllReadyH.nil
      rw [if_pos (by rfl)]
      go_wp2_with fail
      have HN7 := Aside0.mk (heap_alloc_new V1 (.cells #[.slice A2 la.length c2, .slice B2 lb.length e2] 83))
      have hb7 := Aside0.mk (below_mk (Below.refl V1.heap.size V1) (.cells #[.slice A2 la.length c2, .slice B2 lb.length e2] 83))
      have HN17 := Aside0.mk ((hb7.out.block _ (blk_lt HN1.out)).trans HN1.out)
      have HG7 := Aside0.mk (gb_below hb7.out HG1.out)
      have HR7 : Aside0 (ResBox w.heap.size (V1.alloc (.cells #[.slice A2 la.length c2, .slice B2 lb.length e2] 83))) := ⟨(hb7.out.block _ (blk_lt HR1.out)).trans HR1.out⟩
      refine hK.out _ _ (HSK.out _ HG7.out) (fun hHeld2 => ?_)
      clear hK hHeld K
      have hHeld := hHeld2
      clear hHeld2
      try simp only [Act.put, List.setIfInBounds_toArray, List.set_cons_zero, List.set_cons_succ, List.getElem_toArray, List.getElem_cons_zero, List.getElem_cons_succ]
      obtain ⟨s7, es7⟩ : ∃ s, s = V1.heap.size := ⟨_, rfl⟩
      rw [← es7] at HN7 ⊢
      clear es7 hb7
      generalize V1.alloc (.cells #[.slice A2 la.length c2, .slice B2 lb.length e2] 83) = V7 at *
      refine wpAnyH_ready (rs := [10]) (by kernel_rfl) (by simp) ?_
      refine AllReadyH.cons (by rfl) (fun K hK => ?_) AllReadyH.nil
      rw [if_pos (by rfl)]
      go_wp2_with fail
      refine (JC1.out _ _ (gb_old HB2.out HG7.out) HN17.out).mono ?_
      rintro e V8 ⟨v8, rfl, ho8, hb8⟩
      obtain ⟨AA8, dd8, rfl, _, hm8, _, _⟩ := own_cells ho8
      have hl8 : w.heap.size < V7.heap.size := blk_lt HR7.out
      have HN178 := Aside0.mk ((hb8.block _ (blk_lt HN17.out)).trans HN17.out)
      have HN78 := Aside0.mk ((hb8.block _ (blk_lt HN7.out)).trans HN7.out)
      have HG8 := Aside0.mk (gb_below hb8 HG7.out)
      have HR8 : Aside0 (ResBox w.heap.size V8) := ⟨(hb8.block _ (blk_lt HR7.out)).trans HR7.out⟩
      have HO8 := Aside0.mk ho8
      clear ho8 hb8
      refine hK.out _ _ (HSK.out _ HG8.out) (fun hHeld2 => ?_)
      clear hK hHeld K
      have hHeld := hHeld2
      clear hHeld2
      try simp only [Act.put, List.setIfInBounds_toArray, List.set_cons_zero, List.set_cons_succ, List.getElem_toArray, List.getElem_cons_zero, List.getElem_cons_succ]
      refine wpAnyH_ready (rs := [20]) (by kernel_rfl) (by simp) ?_
      refine AllReadyH.cons (by rfl) (fun K hK => ?_) AllReadyH.nil
      rw [if_pos (by rfl)]
      go_wp2_with fail
      refine (JC2.out _ _ (gb_old HB2.out HG8.out) HN78.out).mono ?_
      rintro e V9 ⟨v9, rfl, ho9, hb9⟩
      obtain ⟨AA9, dd9, rfl, _, hm9, _, _⟩ := own_cells ho9
      have hl9 : w.heap.size < V8.heap.size := blk_lt HR8.out
      have HN1789 := Aside0.mk ((hb9.block _ (blk_lt HN178.out)).trans HN178.out)
      have HN789 := Aside0.mk ((hb9.block _ (blk_lt HN78.out)).trans HN78.out)
      have HO89 := Aside0.mk (pw_own_below HO8.out hb9)
      have HG9 := Aside0.mk (gb_below hb9 HG8.out)
      have HR9 : Aside0 (ResBox w.heap.size V9) := ⟨(hb9.block _ (blk_lt HR8.out)).trans HR8.out⟩
      have HO9 := Aside0.mk ho9
      clear ho9 hb9
      refine hK.out _ _ (HSK.out _ HG9.out) (fun hHeld2 => ?_)
      clear hK hHeld K
      have hHeld := hHeld2
      clear hHeld2
      try simp only [Act.put, List.setIfInBounds_toArray, List.set_cons_zero, List.set_cons_succ, List.getElem_toArray, List.getElem_cons_zero, List.getElem_cons_succ]
      refine wpAnyH_take (i := 21) (v := ?v21z10) rfl (by kernel_rfl) (by kernel_rfl) (by kernel_rfl) (fun _ _ _ h => h) (Or.inl ⟨by rfl, fun wq hSw => ?y21z10⟩) (by assumption) ?r21z10
      case y21z10 => ((try dsimp only at hSw); go_simp; try with_reducible rfl)
      try simp only [Act.put, List.setIfInBounds_toArray, List.set_cons_zero, List.set_cons_succ, List.getElem_toArray, List.getElem_cons_zero, List.getElem_cons_succ]
      refine wpAnyH_ready (rs := [22]) (by kernel_rfl) (by simp) ?_
      refine AllReadyH.cons (by rfl) (fun K hK => ?_) AllReadyH.nil
      rw [if_pos (by rfl)]
      go_wp2_with fail
      have hn10 := Aside0.mk (heap_alloc_new V9 (.cells #[.slice AA8 (la.length + lb.length) dd8, .slice AA9 (la.length + lb.length) dd9] 85))
      have hb10 := Aside0.mk (below_mk (Below.refl V9.heap.size V9) (.cells #[.slice AA8 (la.length + lb.length) dd8, .slice AA9 (la.length + lb.length) dd9] 85))
      have hl10 : w.heap.size < V9.heap.size := blk_lt HR9.out
      have HK10 := Aside0.mk (pw_own_below HO89.out hb10.out)
      have HV10 := Aside0.mk (pw_own_below HO9.out hb10.out)
      have HG10 := Aside0.mk (gb_below hb10.out HG9.out)
      have HR10 : Aside0 (ResBox w.heap.size (V9.alloc (.cells #[.slice AA8 (la.length + lb.length) dd8, .slice AA9 (la.length + lb.length) dd9] 85))) := ⟨(hb10.out.block _ (blk_lt HR9.out)).trans HR9.out⟩
      refine hK.out _ _ (HSK.out _ HG10.out) (fun hHeld2 => ?_)
      clear hK hHeld K
      have hHeld := hHeld2
      clear hHeld2
      try simp only [Act.put, List.setIfInBounds_toArray, List.set_cons_zero, List.set_cons_succ, List.getElem_toArray, List.getElem_cons_zero, List.getElem_cons_succ]
      obtain ⟨s10, es10⟩ : ∃ s, s = V9.heap.size := ⟨_, rfl⟩
      rw [← es10] at hn10 hl10 ⊢
      clear es10 hb10
      generalize V9.alloc (.cells #[.slice AA8 (la.length + lb.length) dd8, .slice AA9 (la.length + lb.length) dd9] 85) = V10 at *
      refine wpAnyH_ready (rs := [23]) (by kernel_rfl) (by simp) ?_
      refine AllReadyH.cons (by rfl) (fun K hK => ?_) AllReadyH.nil
      rw [if_pos (by rfl)]
      go_wp2_with fail
      refine (HH.out _ _ _ _ _ _ _ _ (gb_old HB2.out HG10.out) (blk_lt HR10.out) hl8 hl9 hl10 hn10.out HK10.out HV10.out).mono ?_
      rintro e w5 hP
      obtain ⟨ty, bx, rfl, hb5, hfin⟩ := split_none hP (gb_old HB2.out HG10.out)
      have HG5 := Aside0.mk (gb_below hb5 HG10.out)
      obtain ⟨⟨q0, q1, q2⟩, p0, p1, p2⟩ := ResBox.cells ((hb5.block _ (blk_lt HR10.out)).trans HR10.out)
      have HFIN := Aside0.mk hfin
      clear hfin hP hb5
      refine hK.out _ _ (HSK.out _ HG5.out) (fun hHeld2 => ?_)
      clear hK hHeld K
      have hHeld := hHeld2
      clear hHeld2
      try simp only [Act.put, List.setIfInBounds_toArray, List.set_cons_zero, List.set_cons_succ, List.getElem_toArray, List.getElem_cons_zero, List.getElem_cons_succ]
      refine wpAnyH_ready (rs := [24]) (by kernel_rfl) (by simp) ?_
      refine AllReadyH.cons (by rfl) (fun K hK => ?_) AllReadyH.nil
      rw [if_pos (by rfl)]
      go_wp2_with fail
      refine hK.out _ _ (HSK.out _ (gb_set (gb_set (gb_set HG5.out _ _) _ _) _ _)) (fun hHeld2 => ?_)
      clear hK hHeld hHeld2 K
      try simp only [Act.put, List.setIfInBounds_toArray, List.set_cons_zero, List.set_cons_succ, List.getElem_toArray, List.getElem_cons_zero, List.getElem_cons_succ]
      refine wpAnyH_done (by kernel_rfl) ?_ _
      go_wp2
      refine bodyPost_ret (v := .agg #[.iface ty (.pointer (some ⟨bx, 0, none⟩)), .string ⟨#[]⟩, .nilIface]) (by simp [results, Try.results79, go_sem, q0, q1, q2]) rfl ?_
      exact HFIN.out
    refine AllReadyH.cons (by rfl) (fun K hK => ?_) AllReadyH.nil
    rw [if_pos (by rfl)]
    go_wp2_with fail
    have HN12 := Aside0.mk (heap_alloc_new W0 (.cells #[.slice A2 la.length c2, .slice B2 lb.length e2] 83))
    have hb12 := Aside0.mk (below_mk (Below.refl W0.heap.size W0) (.cells #[.slice A2 la.length c2, .slice B2 lb.length e2] 83))
    have HG12 := Aside0.mk (gb_below hb12.out HGR.out)
    have HR12 : Aside0 (ResBox w.heap.size (W0.alloc (.cells #[.slice A2 la.length c2, .slice B2 lb.length e2] 83))) := ⟨(hb12.out.block _ (blk_lt HR2.out)).trans HR2.out⟩
    refine hK.out _ _ (HSK.out _ HG12.out) (fun hHeld2 => ?_)
    clear hK hHeld K
    have hHeld := hHeld2
    clear hHeld2
    try simp only [Act.put, List.setIfInBounds_toArray, List.set_cons_zero, List.set_cons_succ, List.getElem_toArray, List.getElem_cons_zero, List.getElem_cons_succ]
    obtain ⟨s12, es12⟩ : ∃ s, s = W0.heap.size := ⟨_, rfl⟩
    rw [← es12] at HN12 ⊢
    clear es12 hb12
    generalize W0.alloc (.cells #[.slice A2 la.length c2, .slice B2 lb.length e2] 83) = V12 at *
    refine wpAnyH_ready (rs := [9]) (by kernel_rfl) (by simp) ?_
    refine AllReadyH.cons (by rfl) (fun K hK => ?_) AllReadyH.nil
    rw [if_pos (by rfl)]
    go_wp2_with fail
    have HN13 := Aside0.mk (heap_alloc_new V12 (.cells #[.slice A1 la.length c1, .slice B1 lb.length e1] 22))
    have hb13 := Aside0.mk (below_mk (Below.refl V12.heap.size V12) (.cells #[.slice A1 la.length c1, .slice B1 lb.length e1] 22))
    have HN1213 := Aside0.mk ((hb13.out.block _ (blk_lt HN12.out)).trans HN12.out)
    have HG13 := Aside0.mk (gb_below hb13.out HG12.out)
    have HR13 : Aside0 (ResBox w.heap.size (V12.alloc (.cells #[.slice A1 la.length c1, .slice B1 lb.length e1] 22))) := ⟨(hb13.out.block _ (blk_lt HR12.out)).trans HR12.out⟩
    refine hK.out _ _ (HSK.out _ HG13.out) (fun hHeld2 => ?_)
    clear hK hHeld K
    have hHeld := hHeld2
    clear hHeld2
    try simp only [Act.put, List.setIfInBounds_toArray, List.set_cons_zero, List.set_cons_succ, List.getElem_toArray, List.getElem_cons_zero, List.getElem_cons_succ]
    obtain ⟨s13, es13⟩ : ∃ s, s = V12.heap.size := ⟨_, rfl⟩
    rw [← es13] at HN13 ⊢
    clear es13 hb13
    generalize V12.alloc (.cells #[.slice A1 la.length c1, .slice B1 lb.length e1] 22) = V13 at *
    refine wpAnyH_ready (rs := [10]) (by kernel_rfl) (by simp) ?_
    refine AllReadyH.cons (by rfl) (fun K hK => ?_) AllReadyH.nil
    rw [if_pos (by rfl)]
    go_wp2_with fail
    refine (JC1.out _ _ (gb_old HB2.out HG13.out) HN13.out).mono ?_
    rintro e V14 ⟨v14, rfl, ho14, hb14⟩
    obtain ⟨AA14, dd14, rfl, _, hm14, _, _⟩ := own_cells ho14
    have hl14 : w.heap.size < V13.heap.size := blk_lt HR13.out
    have HN121314 := Aside0.mk ((hb14.block _ (blk_lt HN1213.out)).trans HN1213.out)
    have HN1314 := Aside0.mk ((hb14.block _ (blk_lt HN13.out)).trans HN13.out)
    have HG14 := Aside0.mk (gb_below hb14 HG13.out)
    have HR14 : Aside0 (ResBox w.heap.size V14) := ⟨(hb14.block _ (blk_lt HR13.out)).trans HR13.out⟩
    have HO14 := Aside0.mk ho14
    clear ho14 hb14
    refine hK.out _ _ (HSK.out _ HG14.out) (fun hHeld2 => ?_)
    clear hK hHeld K
    have hHeld := hHeld2
    clear hHeld2
    try simp only [Act.put, List.setIfInBounds_toArray, List.set_cons_zero, List.set_cons_succ, List.getElem_toArray, List.getElem_cons_zero, List.getElem_cons_succ]
    refine wpAnyH_ready (rs := [20]) (by kernel_rfl) (by simp) ?_
    refine AllReadyH.cons (by rfl) (fun K hK => ?_) AllReadyH.nil
    rw [if_pos (by rfl)]
    go_wp2_with fail
    refine (JC2.out _ _ (gb_old HB2.out HG14.out) HN121314.out).mono ?_
    rintro e V15 ⟨v15, rfl, ho15, hb15⟩
    obtain ⟨AA15, dd15, rfl, _, hm15, _, _⟩ := own_cells ho15
    have hl15 : w.heap.size < V14.heap.size := blk_lt HR14.out
    have HN12131415 := Aside0.mk ((hb15.block _ (blk_lt HN121314.out)).trans HN121314.out)
    have HN131415 := Aside0.mk ((hb15.block _ (blk_lt HN1314.out)).trans HN1314.out)
    have HO1415 := Aside0.mk (pw_own_below HO14.out hb15)
    have HG15 := Aside0.mk (gb_below hb15 HG14.out)
    have HR15 : Aside0 (ResBox w.heap.size V15) := ⟨(hb15.block _ (blk_lt HR14.out)).trans HR14.out⟩
    have HO15 := Aside0.mk ho15
    clear ho15 hb15
    refine hK.out _ _ (HSK.out _ HG15.out) (fun hHeld2 => ?_)
    clear hK hHeld K
    have hHeld := hHeld2
    clear hHeld2
    try simp only [Act.put, List.setIfInBounds_toArray, List.set_cons_zero, List.set_cons_succ, List.getElem_toArray, List.getElem_cons_zero, List.getElem_cons_succ]
    refine wpAnyH_take (i := 21) (v := ?v21z16) rfl (by kernel_rfl) (by kernel_rfl) (by kernel_rfl) (fun _ _ _ h => h) (Or.inl ⟨by rfl, fun wq hSw => ?y21z16⟩) (by assumption) ?r21z16
    case y21z16 => ((try dsimp only at hSw); go_simp; try with_reducible rfl)
    try simp only [Act.put, List.setIfInBounds_toArray, List.set_cons_zero, List.set_cons_succ, List.getElem_toArray, List.getElem_cons_zero, List.getElem_cons_succ]
    refine wpAnyH_ready (rs := [22]) (by kernel_rfl) (by simp) ?_
    refine AllReadyH.cons (by rfl) (fun K hK => ?_) AllReadyH.nil
    rw [if_pos (by rfl)]
    go_wp2_with fail
    have hn16 := Aside0.mk (heap_alloc_new V15 (.cells #[.slice AA14 (la.length + lb.length) dd14, .slice AA15 (la.length + lb.length) dd15] 85))
    have hb16 := Aside0.mk (below_mk (Below.refl V15.heap.size V15) (.cells #[.slice AA14 (la.length + lb.length) dd14, .slice AA15 (la.length + lb.length) dd15] 85))
    have hl16 : w.heap.size < V15.heap.size := blk_lt HR15.out
    have HK16 := Aside0.mk (pw_own_below HO1415.out hb16.out)
    have HV16 := Aside0.mk (pw_own_below HO15.out hb16.out)
    have HG16 := Aside0.mk (gb_below hb16.out HG15.out)
    have HR16 : Aside0 (ResBox w.heap.size (V15.alloc (.cells #[.slice AA14 (la.length + lb.length) dd14, .slice AA15 (la.length + lb.length) dd15] 85))) := ⟨(hb16.out.block _ (blk_lt HR15.out)).trans HR15.out⟩
    refine hK.out _ _ (HSK.out _ HG16.out) (fun hHeld2 => ?_)
    clear hK hHeld K
    have hHeld := hHeld2
    clear hHeld2
    try simp only [Act.put, List.setIfInBounds_toArray, List.set_cons_zero, List.set_cons_succ, List.getElem_toArray, List.getElem_cons_zero, List.getElem_cons_succ]
    obtain ⟨s16, es16⟩ : ∃ s, s = V15.heap.size := ⟨_, rfl⟩
    rw [← es16] at hn16 hl16 ⊢
    clear es16 hb16
    generalize V15.alloc (.cells #[.slice AA14 (la.length + lb.length) dd14, .slice AA15 (la.length + lb.length) dd15] 85) = V16 at *
    refine wpAnyH_ready (rs := [23]) (by kernel_rfl) (by simp) ?_
    refine AllReadyH.cons (by rfl) (fun K hK => ?_) AllReadyH.nil
    rw [if_pos (by rfl)]
    go_wp2_with fail
    refine (HH.out _ _ _ _ _ _ _ _ (gb_old HB2.out HG16.out) (blk_lt HR16.out) hl14 hl15 hl16 hn16.out HK16.out HV16.out).mono ?_
    rintro e w5 hP
    obtain ⟨ty, bx, rfl, hb5, hfin⟩ := split_none hP (gb_old HB2.out HG16.out)
    have HG5 := Aside0.mk (gb_below hb5 HG16.out)
    obtain ⟨⟨q0, q1, q2⟩, p0, p1, p2⟩ := ResBox.cells ((hb5.block _ (blk_lt HR16.out)).trans HR16.out)
    have HFIN := Aside0.mk hfin
    clear hfin hP hb5
    refine hK.out _ _ (HSK.out _ HG5.out) (fun hHeld2 => ?_)
    clear hK hHeld K
    have hHeld := hHeld2
    clear hHeld2
    try simp only [Act.put, List.setIfInBounds_toArray, List.set_cons_zero, List.set_cons_succ, List.getElem_toArray, List.getElem_cons_zero, List.getElem_cons_succ]
    refine wpAnyH_ready (rs := [24]) (by kernel_rfl) (by simp) ?_
    refine AllReadyH.cons (by rfl) (fun K hK => ?_) AllReadyH.nil
    rw [if_pos (by rfl)]
    go_wp2_with fail
    refine hK.out _ _ (HSK.out _ (gb_set (gb_set (gb_set HG5.out _ _) _ _) _ _)) (fun hHeld2 => ?_)
    clear hK hHeld hHeld2 K
    try simp only [Act.put, List.setIfInBounds_toArray, List.set_cons_zero, List.set_cons_succ, List.getElem_toArray, List.getElem_cons_zero, List.getElem_cons_succ]
    refine wpAnyH_done (by kernel_rfl) ?_ _
    go_wp2
    refine bodyPost_ret (v := .agg #[.iface ty (.pointer (some ⟨bx, 0, none⟩)), .string ⟨#[]⟩, .nilIface]) (by simp [results, Try.results79, go_sem, q0, q1, q2]) rfl ?_
    exact HFIN.out
  · go_enter Try.func79, Try.ntmps79
    go_wp2
    obtain ⟨W0, hW0⟩ : ∃ W0, (w.alloc (.cells #[.nilIface, .string ⟨#[]⟩, .nilIface] 107)).drew = W0 := ⟨_, rfl⟩
    rw [hW0] at HB2 HR2
    have HSK : Aside0 (∀ W, W0.grownBy W (some w.heap.size) → (W.cell? ⟨ba, 0, none⟩ = some (.slice A1 la.length c1) ∧ W.cell? ⟨ba, 1, none⟩ = some (.slice A2 la.length c2) ∧ W.cell? ⟨bb, 0, none⟩ = some (.slice B1 lb.length e1) ∧ W.cell? ⟨bb, 1, none⟩ = some (.slice B2 lb.length e2)) ∧ W0.grownBy W (some w.heap.size)) := ⟨fun W hW => ⟨⟨pw_cell_below (gb_old HB2.out hW) x0, pw_cell_below (gb_old HB2.out hW) x1, pw_cell_below (gb_old HB2.out hW) x2, pw_cell_below (gb_old HB2.out hW) x3⟩, hW⟩⟩
    clear x0 x1 x2 x3
    have HW0 := Aside0.mk hW0
    clear hW0
    refine wp_region_held_drew (S := fun W' => (W'.cell? ⟨ba, 0, none⟩ = some (.slice A1 la.length c1) ∧ W'.cell? ⟨ba, 1, none⟩ = some (.slice A2 la.length c2) ∧ W'.cell? ⟨bb, 0, none⟩ = some (.slice B1 lb.length e1) ∧ W'.cell? ⟨bb, 1, none⟩ = some (.slice B2 lb.length e2)) ∧ W0.grownBy W' (some w.heap.size)) (by kernel_rfl) (HSK.out _ (by rw [HW0.out]; exact grownBy_refl _ _)) (fun hHeld => ?_)
    rw [HW0.out] at hHeld ⊢
    clear HW0
    refine wpAnyH_take (i := 0) (v := ?v0s) rfl (by kernel_rfl) (by kernel_rfl) (by kernel_rfl) (fun _ _ _ h => h) (Or.inl ⟨by rfl, fun wq hSw => ?y0s⟩) (by assumption) ?r0s
    case y0s => ((try dsimp only at hSw); go_simp; try with_reducible rfl)
    try simp only [Act.put, List.setIfInBounds_toArray, List.set_cons_zero, List.set_cons_succ, List.getElem_toArray, List.getElem_cons_zero, List.getElem_cons_succ]
    refine wpAnyH_take (i := 1) (v := ?v1s) rfl (by kernel_rfl) (by kernel_rfl) (by kernel_rfl) (fun _ _ _ h => h) (Or.inl ⟨by rfl, fun wq hSw => ?y1s⟩) (by assumption) ?r1s
    case y1s => ((try dsimp only at hSw); go_simp; try with_reducible rfl)
    try simp only [Act.put, List.setIfInBounds_toArray, List.set_cons_zero, List.set_cons_succ, List.getElem_toArray, List.getElem_cons_zero, List.getElem_cons_succ]
    refine wpAnyH_take (i := 2) (v := ?v2s) rfl (by kernel_rfl) (by kernel_rfl) (by kernel_rfl) (fun _ _ _ h => h) (Or.inl ⟨by rfl, fun wq hSw => ?y2s⟩) (by assumption) ?r2s
    case y2s => ((try dsimp only at hSw); go_simp; try with_reducible rfl)
    try simp only [Act.put, List.setIfInBounds_toArray, List.set_cons_zero, List.set_cons_succ, List.getElem_toArray, List.getElem_cons_zero, List.getElem_cons_succ]
    refine wpAnyH_take (i := 3) (v := ?v3s) rfl (by kernel_rfl) (by kernel_rfl) (by kernel_rfl) (fun _ _ _ h => h) (Or.inl ⟨by rfl, fun wq hSw => ?y3s⟩) (by assumption) ?r3s
    case y3s => ((try dsimp only at hSw); go_simp; try with_reducible rfl)
    try simp only [Act.put, List.setIfInBounds_toArray, List.set_cons_zero, List.set_cons_succ, List.getElem_toArray, List.getElem_cons_zero, List.getElem_cons_succ]
    refine wpAnyH_take (i := 4) (v := ?v4s) rfl (by kernel_rfl) (by kernel_rfl) (by kernel_rfl) (fun _ _ _ h => h) (Or.inl ⟨by rfl, fun wq hSw => ?y4s⟩) (by assumption) ?r4s
    case y4s => ((try dsimp only at hSw); go_simp; try with_reducible rfl)
    try simp only [Act.put, List.setIfInBounds_toArray, List.set_cons_zero, List.set_cons_succ, List.getElem_toArray, List.getElem_cons_zero, List.getElem_cons_succ]
    refine wpAnyH_take (i := 5) (v := ?v5s) rfl (by kernel_rfl) (by kernel_rfl) (by kernel_rfl) (fun _ _ _ h => h) (Or.inl ⟨by rfl, fun wq hSw => ?y5s⟩) (by assumption) ?r5s
    case y5s => ((try dsimp only at hSw); go_simp; try with_reducible rfl)
    try simp only [Act.put, List.setIfInBounds_toArray, List.set_cons_zero, List.set_cons_succ, List.getElem_toArray, List.getElem_cons_zero, List.getElem_cons_succ]
    refine wpAnyH_take (i := 6) (v := ?v6s) rfl (by kernel_rfl) (by kernel_rfl) (by kernel_rfl) (fun _ _ _ h => h) (Or.inl ⟨by rfl, fun wq hSw => ?y6s⟩) (by assumption) ?r6s
    case y6s => ((try dsimp only at hSw); go_simp; try with_reducible rfl)
    try simp only [Act.put, List.setIfInBounds_toArray, List.set_cons_zero, List.set_cons_succ, List.getElem_toArray, List.getElem_cons_zero, List.getElem_cons_succ]
    refine wpAnyH_take (i := 7) (v := ?v7s) rfl (by kernel_rfl) (by kernel_rfl) (by kernel_rfl) (fun _ _ _ h => h) (Or.inl ⟨by rfl, fun wq hSw => ?y7s⟩) (by assumption) ?r7s
    case y7s => ((try dsimp only at hSw); go_simp; try with_reducible rfl)
    try simp only [Act.put, List.setIfInBounds_toArray, List.set_cons_zero, List.set_cons_succ, List.getElem_toArray, List.getElem_cons_zero, List.getElem_cons_succ]
    refine wpAnyH_take (i := 8) (v := ?v8s) rfl (by kernel_rfl) (by kernel_rfl) (by kernel_rfl) (fun _ _ _ h => h) (Or.inl ⟨by rfl, fun wq hSw => ?y8s⟩) (by assumption) ?r8s
    case y8s => ((try dsimp only at hSw); go_simp; try with_reducible rfl)
    try simp only [Act.put, List.setIfInBounds_toArray, List.set_cons_zero, List.set_cons_succ, List.getElem_toArray, List.getElem_cons_zero, List.getElem_cons_succ]
    refine wpAnyH_take (i := 11) (v := ?v11s) rfl (by kernel_rfl) (by kernel_rfl) (by kernel_rfl) (fun _ _ _ h => h) (Or.inl ⟨by rfl, fun wq hSw => ?y11s⟩) (by assumption) ?r11s
    case y11s => ((try dsimp only at hSw); go_simp; try with_reducible rfl)
    try simp only [Act.put, List.setIfInBounds_toArray, List.set_cons_zero, List.set_cons_succ, List.getElem_toArray, List.getElem_cons_zero, List.getElem_cons_succ]
    refine wpAnyH_take (i := 12) (v := ?v12s) rfl (by kernel_rfl) (by kernel_rfl) (by kernel_rfl) (fun _ _ _ h => h) (Or.inl ⟨by rfl, fun wq hSw => ?y12s⟩) (by assumption) ?r12s
    case y12s => ((try dsimp only at hSw); go_simp; try with_reducible rfl)
    try simp only [Act.put, List.setIfInBounds_toArray, List.set_cons_zero, List.set_cons_succ, List.getElem_toArray, List.getElem_cons_zero, List.getElem_cons_succ]
    refine wpAnyH_take (i := 13) (v := ?v13s) rfl (by kernel_rfl) (by kernel_rfl) (by kernel_rfl) (fun _ _ _ h => h) (Or.inl ⟨by rfl, fun wq hSw => ?y13s⟩) (by assumption) ?r13s
    case y13s => ((try dsimp only at hSw); go_simp; try with_reducible rfl)
    try simp only [Act.put, List.setIfInBounds_toArray, List.set_cons_zero, List.set_cons_succ, List.getElem_toArray, List.getElem_cons_zero, List.getElem_cons_succ]
    refine wpAnyH_take (i := 14) (v := ?v14s) rfl (by kernel_rfl) (by kernel_rfl) (by kernel_rfl) (fun _ _ _ h => h) (Or.inl ⟨by rfl, fun wq hSw => ?y14s⟩) (by assumption) ?r14s
    case y14s => ((try dsimp only at hSw); go_simp; try with_reducible rfl)
    try simp only [Act.put, List.setIfInBounds_toArray, List.set_cons_zero, List.set_cons_succ, List.getElem_toArray, List.getElem_cons_zero, List.getElem_cons_succ]
    refine wpAnyH_take (i := 15) (v := ?v15s) rfl (by kernel_rfl) (by kernel_rfl) (by kernel_rfl) (fun _ _ _ h => h) (Or.inl ⟨by rfl, fun wq hSw => ?y15s⟩) (by assumption) ?r15s
    case y15s => ((try dsimp only at hSw); go_simp; try with_reducible rfl)
    try simp only [Act.put, List.setIfInBounds_toArray, List.set_cons_zero, List.set_cons_succ, List.getElem_toArray, List.getElem_cons_zero, List.getElem_cons_succ]
    refine wpAnyH_take (i := 16) (v := ?v16s) rfl (by kernel_rfl) (by kernel_rfl) (by kernel_rfl) (fun _ _ _ h => h) (Or.inl ⟨by rfl, fun wq hSw => ?y16s⟩) (by assumption) ?r16s
    case y16s => ((try dsimp only at hSw); go_simp; try with_reducible rfl)
    try simp only [Act.put, List.setIfInBounds_toArray, List.set_cons_zero, List.set_cons_succ, List.getElem_toArray, List.getElem_cons_zero, List.getElem_cons_succ]
    refine wpAnyH_take (i := 17) (v := ?v17s) rfl (by kernel_rfl) (by kernel_rfl) (by kernel_rfl) (fun _ _ _ h => h) (Or.inl ⟨by rfl, fun wq hSw => ?y17s⟩) (by assumption) ?r17s
    case y17s => ((try dsimp only at hSw); go_simp; try with_reducible rfl)
    try simp only [Act.put, List.setIfInBounds_toArray, List.set_cons_zero, List.set_cons_succ, List.getElem_toArray, List.getElem_cons_zero, List.getElem_cons_succ]
    refine wpAnyH_take (i := 18) (v := ?v18s) rfl (by kernel_rfl) (by kernel_rfl) (by kernel_rfl) (fun _ _ _ h => h) (Or.inl ⟨by rfl, fun wq hSw => ?y18s⟩) (by assumption) ?r18s
    case y18s => ((try dsimp only at hSw); go_simp; try with_reducible rfl)
    try simp only [Act.put, List.setIfInBounds_toArray, List.set_cons_zero, List.set_cons_succ, List.getElem_toArray, List.getElem_cons_zero, List.getElem_cons_succ]
    have HGR := Aside0.mk (grownBy_refl W0 (some w.heap.size))
    refine wpAnyH_ready (rs := [9, 19]) (by kernel_rfl) (by simp) ?_
    refine AllReadyH.cons (by rfl) (fun K hK => ?_) ?_
    · rw [if_pos (by rfl)]
      go_wp2_with fail
      have HN18 := Aside0.mk (heap_alloc_new W0 (.cells #[.slice A1 la.length c1, .slice B1 lb.length e1] 22))
      have hb18 := Aside0.mk (below_mk (Below.refl W0.heap.size W0) (.cells #[.slice A1 la.length c1, .slice B1 lb.length e1] 22))
      have HG18 := Aside0.mk (gb_below hb18.out HGR.out)
      have HR18 : Aside0 (ResBox w.heap.size (W0.alloc (.cells #[.slice A1 la.length c1, .slice B1 lb.length e1] 22))) := ⟨(hb18.out.block _ (blk_lt HR2.out)).trans HR2.out⟩
      refine hK.out _ _ (HSK.out _ HG18.out) (fun hHeld2 => ?_)
      clear hK hHeld K
      have hHeld := hHeld2
      clear hHeld2
      try simp only [Act.put, List.setIfInBounds_toArray, List.set_cons_zero, List.set_cons_succ, List.getElem_toArray, List.getElem_cons_zero, List.getElem_cons_succ]
      obtain ⟨s18, es18⟩ : ∃ s, s = W0.heap.size := ⟨_, rfl⟩
      rw [← es18] at HN18 ⊢
      clear es18 hb18
      generalize W0.alloc (.cells #[.slice A1 la.length c1, .slice B1 lb.length e1] 22) = V18 at *
      refine wpAnyH_ready (rs := [10, 19]) (by kernel_rfl) (by simp) ?_
      refine AllReadyH.cons (by rfl) (fun K hK => ?_) ?_
      · rw [if_pos (by rfl)]
        go_wp2_with fail
        refine (JC1.out _ _ (gb_old HB2.out HG18.out) HN18.out).mono ?_
        rintro e V19 ⟨v19, rfl, ho19, hb19⟩
        obtain ⟨AA19, dd19, rfl, _, hm19, _, _⟩ := own_cells ho19
        have hl19 : w.heap.size < V18.heap.size := blk_lt HR18.out
        have HN1819 := Aside0.mk ((hb19.block _ (blk_lt HN18.out)).trans HN18.out)
        have HG19 := Aside0.mk (gb_below hb19 HG18.out)
        have HR19 : Aside0 (ResBox w.heap.size V19) := ⟨(hb19.block _ (blk_lt HR18.out)).trans HR18.out⟩
        have HO19 := Aside0.mk ho19
        clear ho19 hb19
        refine hK.out _ _ (HSK.out _ HG19.out) (fun hHeld2 => ?_)
        clear hK hHeld K
        have hHeld := hHeld2
        clear hHeld2
        try simp only [Act.put, List.setIfInBounds_toArray, List.set_cons_zero, List.set_cons_succ, List.getElem_toArray, List.getElem_cons_zero, List.getElem_cons_succ]
        refine wpAnyH_ready (rs := [19]) (by kernel_rfl) (by simp) ?_
        refine AllReadyH.cons (by rfl) (fun K hK => ?_) AllReadyH.nil
        rw [if_pos (by rfl)]
        go_wp2_with fail
        have HN20 := Aside0.mk (heap_alloc_new V19 (.cells #[.slice A2 la.length c2, .slice B2 lb.length e2] 83))
        have hb20 := Aside0.mk (below_mk (Below.refl V19.heap.size V19) (.cells #[.slice A2 la.length c2, .slice B2 lb.length e2] 83))
        have HN181920 := Aside0.mk ((hb20.out.block _ (blk_lt HN1819.out)).trans HN1819.out)
        have HO1920 := Aside0.mk (pw_own_below HO19.out hb20.out)
        have HG20 := Aside0.mk (gb_below hb20.out HG19.out)
        have HR20 : Aside0 (ResBox w.heap.size (V19.alloc (.cells #[.slice A2 la.length c2, .slice B2 lb.length e2] 83))) := ⟨(hb20.out.block _ (blk_lt HR19.out)).trans HR19.out⟩
        refine hK.out _ _ (HSK.out _ HG20.out) (fun hHeld2 => ?_)
        clear hK hHeld K
        have hHeld := hHeld2
        clear hHeld2
        try simp only [Act.put, List.setIfInBounds_toArray, List.set_cons_zero, List.set_cons_succ, List.getElem_toArray, List.getElem_cons_zero, List.getElem_cons_succ]
        obtain ⟨s20, es20⟩ : ∃ s, s = V19.heap.size := ⟨_, rfl⟩
        rw [← es20] at HN20 ⊢
        clear es20 hb20
        generalize V19.alloc (.cells #[.slice A2 la.length c2, .slice B2 lb.length e2] 83) = V20 at *
        refine wpAnyH_ready (rs := [20]) (by kernel_rfl) (by simp) ?_
        refine AllReadyH.cons (by rfl) (fun K hK => ?_) AllReadyH.nil
        rw [if_pos (by rfl)]
        go_wp2_with fail
        refine (JC2.out _ _ (gb_old HB2.out HG20.out) HN20.out).mono ?_
        rintro e V21 ⟨v21, rfl, ho21, hb21⟩
        obtain ⟨AA21, dd21, rfl, _, hm21, _, _⟩ := own_cells ho21
        have hl21 : w.heap.size < V20.heap.size := blk_lt HR20.out
        have HN18192021 := Aside0.mk ((hb21.block _ (blk_lt HN181920.out)).trans HN181920.out)
        have HN2021 := Aside0.mk ((hb21.block _ (blk_lt HN20.out)).trans HN20.out)
        have HO192021 := Aside0.mk (pw_own_below HO1920.out hb21)
        have HG21 := Aside0.mk (gb_below hb21 HG20.out)
        have HR21 : Aside0 (ResBox w.heap.size V21) := ⟨(hb21.block _ (blk_lt HR20.out)).trans HR20.out⟩
        have HO21 := Aside0.mk ho21
        clear ho21 hb21
        refine hK.out _ _ (HSK.out _ HG21.out) (fun hHeld2 => ?_)
        clear hK hHeld K
        have hHeld := hHeld2
        clear hHeld2
        try simp only [Act.put, List.setIfInBounds_toArray, List.set_cons_zero, List.set_cons_succ, List.getElem_toArray, List.getElem_cons_zero, List.getElem_cons_succ]
        refine wpAnyH_take (i := 21) (v := ?v21z22) rfl (by kernel_rfl) (by kernel_rfl) (by kernel_rfl) (fun _ _ _ h => h) (Or.inl ⟨by rfl, fun wq hSw => ?y21z22⟩) (by assumption) ?r21z22
        case y21z22 => ((try dsimp only at hSw); go_simp; try with_reducible rfl)
        try simp only [Act.put, List.setIfInBounds_toArray, List.set_cons_zero, List.set_cons_succ, List.getElem_toArray, List.getElem_cons_zero, List.getElem_cons_succ]
        refine wpAnyH_ready (rs := [22]) (by kernel_rfl) (by simp) ?_
        refine AllReadyH.cons (by rfl) (fun K hK => ?_) AllReadyH.nil
        rw [if_pos (by rfl)]
        go_wp2_with fail
        have hn22 := Aside0.mk (heap_alloc_new V21 (.cells #[.slice AA19 (la.length + lb.length) dd19, .slice AA21 (la.length + lb.length) dd21] 85))
        have hb22 := Aside0.mk (below_mk (Below.refl V21.heap.size V21) (.cells #[.slice AA19 (la.length + lb.length) dd19, .slice AA21 (la.length + lb.length) dd21] 85))
        have hl22 : w.heap.size < V21.heap.size := blk_lt HR21.out
        have HK22 := Aside0.mk (pw_own_below HO192021.out hb22.out)
        have HV22 := Aside0.mk (pw_own_below HO21.out hb22.out)
        have HG22 := Aside0.mk (gb_below hb22.out HG21.out)
        have HR22 : Aside0 (ResBox w.heap.size (V21.alloc (.cells #[.slice AA19 (la.length + lb.length) dd19, .slice AA21 (la.length + lb.length) dd21] 85))) := ⟨(hb22.out.block _ (blk_lt HR21.out)).trans HR21.out⟩
        refine hK.out _ _ (HSK.out _ HG22.out) (fun hHeld2 => ?_)
        clear hK hHeld K
        have hHeld := hHeld2
        clear hHeld2
        try simp only [Act.put, List.setIfInBounds_toArray, List.set_cons_zero, List.set_cons_succ, List.getElem_toArray, List.getElem_cons_zero, List.getElem_cons_succ]
        obtain ⟨s22, es22⟩ : ∃ s, s = V21.heap.size := ⟨_, rfl⟩
        rw [← es22] at hn22 hl22 ⊢
        clear es22 hb22
        generalize V21.alloc (.cells #[.slice AA19 (la.length + lb.length) dd19, .slice AA21 (la.length + lb.length) dd21] 85) = V22 at *
        refine wpAnyH_ready (rs := [23]) (by kernel_rfl) (by simp) ?_
        refine AllReadyH.cons (by rfl) (fun K hK => ?_) AllReadyH.nil
        rw [if_pos (by rfl)]
        go_wp2_with fail
        refine (HH.out _ _ _ _ _ _ _ _ (gb_old HB2.out HG22.out) (blk_lt HR22.out) hl19 hl21 hl22 hn22.out HK22.out HV22.out).mono ?_
        rintro e w5 hP
        obtain ⟨ty, bx, ty2, bx2, rfl, hb5, hfin⟩ := split_some hP (gb_old HB2.out HG22.out)
        have HG5 := Aside0.mk (gb_below hb5 HG22.out)
        obtain ⟨⟨q0, q1, q2⟩, p0, p1, p2⟩ := ResBox.cells ((hb5.block _ (blk_lt HR22.out)).trans HR22.out)
        have HFIN := Aside0.mk hfin
        clear hfin hP hb5
        refine hK.out _ _ (HSK.out _ HG5.out) (fun hHeld2 => ?_)
        clear hK hHeld K
        have hHeld := hHeld2
        clear hHeld2
        try simp only [Act.put, List.setIfInBounds_toArray, List.set_cons_zero, List.set_cons_succ, List.getElem_toArray, List.getElem_cons_zero, List.getElem_cons_succ]
        refine wpAnyH_ready (rs := [24]) (by kernel_rfl) (by simp) ?_
        refine AllReadyH.cons (by rfl) (fun K hK => ?_) AllReadyH.nil
        rw [if_pos (by rfl)]
        go_wp2_with fail
        refine hK.out _ _ (HSK.out _ (gb_set (gb_set (gb_set HG5.out _ _) _ _) _ _)) (fun hHeld2 => ?_)
        clear hK hHeld hHeld2 K
        try simp only [Act.put, List.setIfInBounds_toArray, List.set_cons_zero, List.set_cons_succ, List.getElem_toArray, List.getElem_cons_zero, List.getElem_cons_succ]
        refine wpAnyH_done (by kernel_rfl) ?_ _
        go_wp2
        refine bodyPost_ret (v := .agg #[.iface ty (.pointer (some ⟨bx, 0, none⟩)), .string mid2, .iface ty2 (.pointer (some ⟨bx2, 0, none⟩))]) (by simp [results, Try.results79, go_sem, q0, q1, q2]) rfl ?_
        exact HFIN.out
      refine AllReadyH.cons (by rfl) (fun K hK => ?_) AllReadyH.nil
      rw [if_pos (by rfl)]
      go_wp2_with fail
      have HN24 := Aside0.mk (heap_alloc_new V18 (.cells #[.slice A2 la.length c2, .slice B2 lb.length e2] 83))
      have hb24 := Aside0.mk (below_mk (Below.refl V18.heap.size V18) (.cells #[.slice A2 la.length c2, .slice B2 lb.length e2] 83))
      have HN1824 := Aside0.mk ((hb24.out.block _ (blk_lt HN18.out)).trans HN18.out)
      have HG24 := Aside0.mk (gb_below hb24.out HG18.out)
      have HR24 : Aside0 (ResBox w.heap.size (V18.alloc (.cells #[.slice A2 la.length c2, .slice B2 lb.length e2] 83))) := ⟨(hb24.out.block _ (blk_lt HR18.out)).trans HR18.out⟩
      refine hK.out _ _ (HSK.out _ HG24.out) (fun hHeld2 => ?_)
      clear hK hHeld K
      have hHeld := hHeld2
      clear hHeld2
      try simp only [Act.put, List.setIfInBounds_toArray, List.set_cons_zero, List.set_cons_succ, List.getElem_toArray, List.getElem_cons_zero, List.getElem_cons_succ]
      obtain ⟨s24, es24⟩ : ∃ s, s = V18.heap.size := ⟨_, rfl⟩
      rw [← es24] at HN24 ⊢
      clear es24 hb24
      generalize V18.alloc (.cells #[.slice A2 la.length c2, .slice B2 lb.length e2] 83) = V24 at *
      refine wpAnyH_ready (rs := [10]) (by kernel_rfl) (by simp) ?_
      refine AllReadyH.cons (by rfl) (fun K hK => ?_) AllReadyH.nil
      rw [if_pos (by rfl)]
      go_wp2_with fail
      refine (JC1.out _ _ (gb_old HB2.out HG24.out) HN1824.out).mono ?_
      rintro e V25 ⟨v25, rfl, ho25, hb25⟩
      obtain ⟨AA25, dd25, rfl, _, hm25, _, _⟩ := own_cells ho25
      have hl25 : w.heap.size < V24.heap.size := blk_lt HR24.out
      have HN182425 := Aside0.mk ((hb25.block _ (blk_lt HN1824.out)).trans HN1824.out)
      have HN2425 := Aside0.mk ((hb25.block _ (blk_lt HN24.out)).trans HN24.out)
      have HG25 := Aside0.mk (gb_below hb25 HG24.out)
      have HR25 : Aside0 (ResBox w.heap.size V25) := ⟨(hb25.block _ (blk_lt HR24.out)).trans HR24.out⟩
      have HO25 := Aside0.mk ho25
      clear ho25 hb25
      refine hK.out _ _ (HSK.out _ HG25.out) (fun hHeld2 => ?_)
      clear hK hHeld K
      have hHeld := hHeld2
      clear hHeld2
      try simp only [Act.put, List.setIfInBounds_toArray, List.set_cons_zero, List.set_cons_succ, List.getElem_toArray, List.getElem_cons_zero, List.getElem_cons_succ]
      refine wpAnyH_ready (rs := [20]) (by kernel_rfl) (by simp) ?_
      refine AllReadyH.cons (by rfl) (fun K hK => ?_) AllReadyH.nil
      rw [if_pos (by rfl)]
      go_wp2_with fail
      refine (JC2.out _ _ (gb_old HB2.out HG25.out) HN2425.out).mono ?_
      rintro e V26 ⟨v26, rfl, ho26, hb26⟩
      obtain ⟨AA26, dd26, rfl, _, hm26, _, _⟩ := own_cells ho26
      have hl26 : w.heap.size < V25.heap.size := blk_lt HR25.out
      have HN18242526 := Aside0.mk ((hb26.block _ (blk_lt HN182425.out)).trans HN182425.out)
      have HN242526 := Aside0.mk ((hb26.block _ (blk_lt HN2425.out)).trans HN2425.out)
      have HO2526 := Aside0.mk (pw_own_below HO25.out hb26)
      have HG26 := Aside0.mk (gb_below hb26 HG25.out)
      have HR26 : Aside0 (ResBox w.heap.size V26) := ⟨(hb26.block _ (blk_lt HR25.out)).trans HR25.out⟩
      have HO26 := Aside0.mk ho26
      clear ho26 hb26
      refine hK.out _ _ (HSK.out _ HG26.out) (fun hHeld2 => ?_)
      clear hK hHeld K
      have hHeld := hHeld2
      clear hHeld2
      try simp only [Act.put, List.setIfInBounds_toArray, List.set_cons_zero, List.set_cons_succ, List.getElem_toArray, List.getElem_cons_zero, List.getElem_cons_succ]
      refine wpAnyH_take (i := 21) (v := ?v21z27) rfl (by kernel_rfl) (by kernel_rfl) (by kernel_rfl) (fun _ _ _ h => h) (Or.inl ⟨by rfl, fun wq hSw => ?y21z27⟩) (by assumption) ?r21z27
      case y21z27 => ((try dsimp only at hSw); go_simp; try with_reducible rfl)
      try simp only [Act.put, List.setIfInBounds_toArray, List.set_cons_zero, List.set_cons_succ, List.getElem_toArray, List.getElem_cons_zero, List.getElem_cons_succ]
      refine wpAnyH_ready (rs := [22]) (by kernel_rfl) (by simp) ?_
      refine AllReadyH.cons (by rfl) (fun K hK => ?_) AllReadyH.nil
      rw [if_pos (by rfl)]
      go_wp2_with fail
      have hn27 := Aside0.mk (heap_alloc_new V26 (.cells #[.slice AA25 (la.length + lb.length) dd25, .slice AA26 (la.length + lb.length) dd26] 85))
      have hb27 := Aside0.mk (below_mk (Below.refl V26.heap.size V26) (.cells #[.slice AA25 (la.length + lb.length) dd25, .slice AA26 (la.length + lb.length) dd26] 85))
      have hl27 : w.heap.size < V26.heap.size := blk_lt HR26.out
      have HK27 := Aside0.mk (pw_own_below HO2526.out hb27.out)
      have HV27 := Aside0.mk (pw_own_below HO26.out hb27.out)
      have HG27 := Aside0.mk (gb_below hb27.out HG26.out)
      have HR27 : Aside0 (ResBox w.heap.size (V26.alloc (.cells #[.slice AA25 (la.length + lb.length) dd25, .slice AA26 (la.length + lb.length) dd26] 85))) := ⟨(hb27.out.block _ (blk_lt HR26.out)).trans HR26.out⟩
      refine hK.out _ _ (HSK.out _ HG27.out) (fun hHeld2 => ?_)
      clear hK hHeld K
      have hHeld := hHeld2
      clear hHeld2
      try simp only [Act.put, List.setIfInBounds_toArray, List.set_cons_zero, List.set_cons_succ, List.getElem_toArray, List.getElem_cons_zero, List.getElem_cons_succ]
      obtain ⟨s27, es27⟩ : ∃ s, s = V26.heap.size := ⟨_, rfl⟩
      rw [← es27] at hn27 hl27 ⊢
      clear es27 hb27
      generalize V26.alloc (.cells #[.slice AA25 (la.length + lb.length) dd25, .slice AA26 (la.length + lb.length) dd26] 85) = V27 at *
      refine wpAnyH_ready (rs := [23]) (by kernel_rfl) (by simp) ?_
      refine AllReadyH.cons (by rfl) (fun K hK => ?_) AllReadyH.nil
      rw [if_pos (by rfl)]
      go_wp2_with fail
      refine (HH.out _ _ _ _ _ _ _ _ (gb_old HB2.out HG27.out) (blk_lt HR27.out) hl25 hl26 hl27 hn27.out HK27.out HV27.out).mono ?_
      rintro e w5 hP
      obtain ⟨ty, bx, ty2, bx2, rfl, hb5, hfin⟩ := split_some hP (gb_old HB2.out HG27.out)
      have HG5 := Aside0.mk (gb_below hb5 HG27.out)
      obtain ⟨⟨q0, q1, q2⟩, p0, p1, p2⟩ := ResBox.cells ((hb5.block _ (blk_lt HR27.out)).trans HR27.out)
      have HFIN := Aside0.mk hfin
      clear hfin hP hb5
      refine hK.out _ _ (HSK.out _ HG5.out) (fun hHeld2 => ?_)
      clear hK hHeld K
      have hHeld := hHeld2
      clear hHeld2
      try simp only [Act.put, List.setIfInBounds_toArray, List.set_cons_zero, List.set_cons_succ, List.getElem_toArray, List.getElem_cons_zero, List.getElem_cons_succ]
      refine wpAnyH_ready (rs := [24]) (by kernel_rfl) (by simp) ?_
      refine AllReadyH.cons (by rfl) (fun K hK => ?_) AllReadyH.nil
      rw [if_pos (by rfl)]
      go_wp2_with fail
      refine hK.out _ _ (HSK.out _ (gb_set (gb_set (gb_set HG5.out _ _) _ _) _ _)) (fun hHeld2 => ?_)
      clear hK hHeld hHeld2 K
      try simp only [Act.put, List.setIfInBounds_toArray, List.set_cons_zero, List.set_cons_succ, List.getElem_toArray, List.getElem_cons_zero, List.getElem_cons_succ]
      refine wpAnyH_done (by kernel_rfl) ?_ _
      go_wp2
      refine bodyPost_ret (v := .agg #[.iface ty (.pointer (some ⟨bx, 0, none⟩)), .string mid2, .iface ty2 (.pointer (some ⟨bx2, 0, none⟩))]) (by simp [results, Try.results79, go_sem, q0, q1, q2]) rfl ?_
      exact HFIN.out
    refine AllReadyH.cons (by rfl) (fun K hK => ?_) AllReadyH.nil
    rw [if_pos (by rfl)]
    go_wp2_with fail
    have HN29 := Aside0.mk (heap_alloc_new W0 (.cells #[.slice A2 la.length c2, .slice B2 lb.length e2] 83))
    have hb29 := Aside0.mk (below_mk (Below.refl W0.heap.size W0) (.cells #[.slice A2 la.length c2, .slice B2 lb.length e2] 83))
    have HG29 := Aside0.mk (gb_below hb29.out HGR.out)
    have HR29 : Aside0 (ResBox w.heap.size (W0.alloc (.cells #[.slice A2 la.length c2, .slice B2 lb.length e2] 83))) := ⟨(hb29.out.block _ (blk_lt HR2.out)).trans HR2.out⟩
    refine hK.out _ _ (HSK.out _ HG29.out) (fun hHeld2 => ?_)
    clear hK hHeld K
    have hHeld := hHeld2
    clear hHeld2
    try simp only [Act.put, List.setIfInBounds_toArray, List.set_cons_zero, List.set_cons_succ, List.getElem_toArray, List.getElem_cons_zero, List.getElem_cons_succ]
    obtain ⟨s29, es29⟩ : ∃ s, s = W0.heap.size := ⟨_, rfl⟩
    rw [← es29] at HN29 ⊢
    clear es29 hb29
    generalize W0.alloc (.cells #[.slice A2 la.length c2, .slice B2 lb.length e2] 83) = V29 at *
    refine wpAnyH_ready (rs := [9]) (by kernel_rfl) (by simp) ?_
    refine AllReadyH.cons (by rfl) (fun K hK => ?_) AllReadyH.nil
    rw [if_pos (by rfl)]
    go_wp2_with fail
    have HN30 := Aside0.mk (heap_alloc_new V29 (.cells #[.slice A1 la.length c1, .slice B1 lb.length e1] 22))
    have hb30 := Aside0.mk (below_mk (Below.refl V29.heap.size V29) (.cells #[.slice A1 la.length c1, .slice B1 lb.length e1] 22))
    have HN2930 := Aside0.mk ((hb30.out.block _ (blk_lt HN29.out)).trans HN29.out)
    have HG30 := Aside0.mk (gb_below hb30.out HG29.out)
    have HR30 : Aside0 (ResBox w.heap.size (V29.alloc (.cells #[.slice A1 la.length c1, .slice B1 lb.length e1] 22))) := ⟨(hb30.out.block _ (blk_lt HR29.out)).trans HR29.out⟩
    refine hK.out _ _ (HSK.out _ HG30.out) (fun hHeld2 => ?_)
    clear hK hHeld K
    have hHeld := hHeld2
    clear hHeld2
    try simp only [Act.put, List.setIfInBounds_toArray, List.set_cons_zero, List.set_cons_succ, List.getElem_toArray, List.getElem_cons_zero, List.getElem_cons_succ]
    obtain ⟨s30, es30⟩ : ∃ s, s = V29.heap.size := ⟨_, rfl⟩
    rw [← es30] at HN30 ⊢
    clear es30 hb30
    generalize V29.alloc (.cells #[.slice A1 la.length c1, .slice B1 lb.length e1] 22) = V30 at *
    refine wpAnyH_ready (rs := [10]) (by kernel_rfl) (by simp) ?_
    refine AllReadyH.cons (by rfl) (fun K hK => ?_) AllReadyH.nil
    rw [if_pos (by rfl)]
    go_wp2_with fail
    refine (JC1.out _ _ (gb_old HB2.out HG30.out) HN30.out).mono ?_
    rintro e V31 ⟨v31, rfl, ho31, hb31⟩
    obtain ⟨AA31, dd31, rfl, _, hm31, _, _⟩ := own_cells ho31
    have hl31 : w.heap.size < V30.heap.size := blk_lt HR30.out
    have HN293031 := Aside0.mk ((hb31.block _ (blk_lt HN2930.out)).trans HN2930.out)
    have HN3031 := Aside0.mk ((hb31.block _ (blk_lt HN30.out)).trans HN30.out)
    have HG31 := Aside0.mk (gb_below hb31 HG30.out)
    have HR31 : Aside0 (ResBox w.heap.size V31) := ⟨(hb31.block _ (blk_lt HR30.out)).trans HR30.out⟩
    have HO31 := Aside0.mk ho31
    clear ho31 hb31
    refine hK.out _ _ (HSK.out _ HG31.out) (fun hHeld2 => ?_)
    clear hK hHeld K
    have hHeld := hHeld2
    clear hHeld2
    try simp only [Act.put, List.setIfInBounds_toArray, List.set_cons_zero, List.set_cons_succ, List.getElem_toArray, List.getElem_cons_zero, List.getElem_cons_succ]
    refine wpAnyH_ready (rs := [20]) (by kernel_rfl) (by simp) ?_
    refine AllReadyH.cons (by rfl) (fun K hK => ?_) AllReadyH.nil
    rw [if_pos (by rfl)]
    go_wp2_with fail
    refine (JC2.out _ _ (gb_old HB2.out HG31.out) HN293031.out).mono ?_
    rintro e V32 ⟨v32, rfl, ho32, hb32⟩
    obtain ⟨AA32, dd32, rfl, _, hm32, _, _⟩ := own_cells ho32
    have hl32 : w.heap.size < V31.heap.size := blk_lt HR31.out
    have HN29303132 := Aside0.mk ((hb32.block _ (blk_lt HN293031.out)).trans HN293031.out)
    have HN303132 := Aside0.mk ((hb32.block _ (blk_lt HN3031.out)).trans HN3031.out)
    have HO3132 := Aside0.mk (pw_own_below HO31.out hb32)
    have HG32 := Aside0.mk (gb_below hb32 HG31.out)
    have HR32 : Aside0 (ResBox w.heap.size V32) := ⟨(hb32.block _ (blk_lt HR31.out)).trans HR31.out⟩
    have HO32 := Aside0.mk ho32
    clear ho32 hb32
    refine hK.out _ _ (HSK.out _ HG32.out) (fun hHeld2 => ?_)
    clear hK hHeld K
    have hHeld := hHeld2
    clear hHeld2
    try simp only [Act.put, List.setIfInBounds_toArray, List.set_cons_zero, List.set_cons_succ, List.getElem_toArray, List.getElem_cons_zero, List.getElem_cons_succ]
    refine wpAnyH_take (i := 21) (v := ?v21z33) rfl (by kernel_rfl) (by kernel_rfl) (by kernel_rfl) (fun _ _ _ h => h) (Or.inl ⟨by rfl, fun wq hSw => ?y21z33⟩) (by assumption) ?r21z33
    case y21z33 => ((try dsimp only at hSw); go_simp; try with_reducible rfl)
    try simp only [Act.put, List.setIfInBounds_toArray, List.set_cons_zero, List.set_cons_succ, List.getElem_toArray, List.getElem_cons_zero, List.getElem_cons_succ]
    refine wpAnyH_ready (rs := [22]) (by kernel_rfl) (by simp) ?_
    refine AllReadyH.cons (by rfl) (fun K hK => ?_) AllReadyH.nil
    rw [if_pos (by rfl)]
    go_wp2_with fail
    have hn33 := Aside0.mk (heap_alloc_new V32 (.cells #[.slice AA31 (la.length + lb.length) dd31, .slice AA32 (la.length + lb.length) dd32] 85))
    have hb33 := Aside0.mk (below_mk (Below.refl V32.heap.size V32) (.cells #[.slice AA31 (la.length + lb.length) dd31, .slice AA32 (la.length + lb.length) dd32] 85))
    have hl33 : w.heap.size < V32.heap.size := blk_lt HR32.out
    have HK33 := Aside0.mk (pw_own_below HO3132.out hb33.out)
    have HV33 := Aside0.mk (pw_own_below HO32.out hb33.out)
    have HG33 := Aside0.mk (gb_below hb33.out HG32.out)
    have HR33 : Aside0 (ResBox w.heap.size (V32.alloc (.cells #[.slice AA31 (la.length + lb.length) dd31, .slice AA32 (la.length + lb.length) dd32] 85))) := ⟨(hb33.out.block _ (blk_lt HR32.out)).trans HR32.out⟩
    refine hK.out _ _ (HSK.out _ HG33.out) (fun hHeld2 => ?_)
    clear hK hHeld K
    have hHeld := hHeld2
    clear hHeld2
    try simp only [Act.put, List.setIfInBounds_toArray, List.set_cons_zero, List.set_cons_succ, List.getElem_toArray, List.getElem_cons_zero, List.getElem_cons_succ]
    obtain ⟨s33, es33⟩ : ∃ s, s = V32.heap.size := ⟨_, rfl⟩
    rw [← es33] at hn33 hl33 ⊢
    clear es33 hb33
    generalize V32.alloc (.cells #[.slice AA31 (la.length + lb.length) dd31, .slice AA32 (la.length + lb.length) dd32] 85) = V33 at *
    refine wpAnyH_ready (rs := [23]) (by kernel_rfl) (by simp) ?_
    refine AllReadyH.cons (by rfl) (fun K hK => ?_) AllReadyH.nil
    rw [if_pos (by rfl)]
    go_wp2_with fail
    refine (HH.out _ _ _ _ _ _ _ _ (gb_old HB2.out HG33.out) (blk_lt HR33.out) hl31 hl32 hl33 hn33.out HK33.out HV33.out).mono ?_
    rintro e w5 hP
    obtain ⟨ty, bx, ty2, bx2, rfl, hb5, hfin⟩ := split_some hP (gb_old HB2.out HG33.out)
    have HG5 := Aside0.mk (gb_below hb5 HG33.out)
    obtain ⟨⟨q0, q1, q2⟩, p0, p1, p2⟩ := ResBox.cells ((hb5.block _ (blk_lt HR33.out)).trans HR33.out)
    have HFIN := Aside0.mk hfin
    clear hfin hP hb5
    refine hK.out _ _ (HSK.out _ HG5.out) (fun hHeld2 => ?_)
    clear hK hHeld K
    have hHeld := hHeld2
    clear hHeld2
    try simp only [Act.put, List.setIfInBounds_toArray, List.set_cons_zero, List.set_cons_succ, List.getElem_toArray, List.getElem_cons_zero, List.getElem_cons_succ]
    refine wpAnyH_ready (rs := [24]) (by kernel_rfl) (by simp) ?_
    refine AllReadyH.cons (by rfl) (fun K hK => ?_) AllReadyH.nil
    rw [if_pos (by rfl)]
    go_wp2_with fail
    refine hK.out _ _ (HSK.out _ (gb_set (gb_set (gb_set HG5.out _ _) _ _) _ _)) (fun hHeld2 => ?_)
    clear hK hHeld hHeld2 K
    try simp only [Act.put, List.setIfInBounds_toArray, List.set_cons_zero, List.set_cons_succ, List.getElem_toArray, List.getElem_cons_zero, List.getElem_cons_succ]
    refine wpAnyH_done (by kernel_rfl) ?_ _
    go_wp2
    refine bodyPost_ret (v := .agg #[.iface ty (.pointer (some ⟨bx, 0, none⟩)), .string mid2, .iface ty2 (.pointer (some ⟨bx2, 0, none⟩))]) (by simp [results, Try.results79, go_sem, q0, q1, q2]) rfl ?_
    exact HFIN.out
end Go.Proofs.Ytjabcdfbncglnaa
