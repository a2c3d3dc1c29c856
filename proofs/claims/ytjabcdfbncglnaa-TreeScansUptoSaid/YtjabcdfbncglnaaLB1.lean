/- WHAT IS PROVED: slices.Insert of strings into a row of one's own is the insertion. with of strings makes a row of its own with one element more. slices.Clone of numbers makes a row of its own with the same elements. slices.Insert of numbers into a row of one's own is the insertion. with of numbers makes a row of its own with one element more. slices.Clone of nodes makes a row of its own with the same elements. slices.Insert of nodes into a row of one's own is the insertion. with of nodes makes a row of its own with one element more. -/
import Derived.Test.YtjabcdfbncglnaaLB0
namespace Go.Proofs.Ytjabcdfbncglnaa
open Go.RowKit Go.Proofs.YtjabcdfbncglnaaW.PrintWords Go.Proofs.YtjabcdfbncglnaaW.PrintLast Go.Proofs.YtjabcdfbncglnaaW.PrintMore
set_option linter.unusedVariables false
set_option linter.unusedSimpArgs false

set_option maxHeartbeats 2000000 in
set_option maxRecDepth 100000 in
/-- slices.Insert at the end of a row of one's own. -/
theorem insert_end_str (base n : Nat) (v : Value) (vb : Nat) (cs : List Value) (x : Value) (w : World) (hown : w.ownsRow base 9 1 v n cs) (hbase : base ≤ w.heap.size) (hbig : n ≤ 8589934592)
    (hx : w.cell? ⟨vb, 0, none⟩ = some x) (h1 : x.oneCell' = true) :
    Calls Try.prog 72 #[v, .int .i64 n, .slice (some ⟨vb, 0, none⟩) 1 1] w fun e w' => ∃ v', e = .returned v' ∧ w'.ownsRow base 9 1 v' (n + 1) (cs ++ [x]) ∧ w.grownBy w' v.ownBlock := by
  obtain ⟨i0, hi, hz0, hz1, hz2⟩ := info_parts info9s
  have hs : ∃ A c, v = .slice A n c ∧ n ≤ c ∧ c ≤ 9223372036854775807 := by
    rcases hown.2 with ⟨rfl, rfl⟩ | ⟨g, cap, cur, rfl, hb, hh, h1, h2, h3, h4⟩
    · exact ⟨none, 0, rfl, Nat.le_refl _, Nat.zero_le _⟩
    · exact ⟨_, cap, rfl, h1, by unfold maxLen at h2; omega⟩
  obtain ⟨A, c, rfl, hnc, hcm⟩ := hs
  have HO := Aside0.mk hown
  have hmx : n + 1 ≤ maxLen := by unfold maxLen; omega
  clear hown
  go_enter Try.func72, Try.ntmps72
  go_wp2_with (at_builtin; refine wpList_append_own _ rfl (.tmp 23) (.tmp 24) 22 rfl base 9 i0 (.string ⟨#[]⟩) 1 16 Try.underlying22 hi hz0 hz1 hz2 rfl (by decide) _ n cs rfl HO.out ⟨vb, 0, none⟩ 1 1 [x] rfl ?qc1 ?qc2 ?qc3 ?qc4 ?qc5 ?qc6 ?_)
  case qc1 => rfl
  case qc2 =>
    intro j u hj
    rw [Addr.add_lit]
    cases j with
    | zero => simpa using (by simpa using hj : x = u) ▸ hx
    | succ j => simp at hj
  case qc3 => intro u hu; rw [List.mem_singleton.1 hu]; exact h1
  case qc4 => exact hmx
  case qc5 => omega
  case qc6 => exact hbase
  all_goals
    intro v' w1 ho hg hne
    have ho := Aside0.mk ho
    have hg := Aside0.mk hg
    clear hne
    go_wp2
    go_ret
    exact ⟨v', rfl, ho.out, by cases A <;> exact hg.out⟩

theorem splice_shift_str (cur : List Value) (n i : Nat) (x : Value) (hi : i < n) (hc : n + 1 ≤ cur.length) :
    (splice (splice cur (i + 1) ((cur.take n).drop i)) i [x]).take (n + 1) = (cur.take n).take i ++ x :: (cur.take n).drop i ∧ (splice (splice cur (i + 1) ((cur.take n).drop i)) i [x]).length = cur.length := by
  have e1 : ((cur.take n).drop i).length = n - i := by rw [List.length_drop, List.length_take]; omega
  have e2 : (splice cur (i + 1) ((cur.take n).drop i)).length = cur.length := length_splice _ _ _ (by omega)
  refine ⟨?_, by rw [length_splice _ _ _ (by simp; omega), e2]⟩
  apply List.ext_getElem?
  intro j
  unfold splice
  simp only [List.getElem?_take, List.getElem?_append, List.length_take, List.length_append, List.length_drop, List.getElem?_drop, List.length_cons, List.length_nil, List.getElem?_cons]
  grind

set_option maxHeartbeats 4000000 in
set_option maxRecDepth 100000 in
/-- slices.Insert into a row of one's own, where there is room. -/
theorem insert_room_str (base g n cap i : Nat) (vb : Nat) (cur : List Value) (x : Value) (w : World) (hb : base ≤ g) (hh : w.heap[g]? = some (.cells cur.toArray 9 (0, 0))) (hn : n + 1 ≤ cap) (hm : cap ≤ 9223372036854775807) (hbig : n ≤ 8589934592) (hcur : cur.length = cap) (hi : i < n)
    (hone : ∀ u ∈ cur.take n, u.oneCell' = true) (hvb : vb ≠ g) (hvh : w.heap[vb]? = some (.cells #[x] 9 (0, 0))) (h1 : x.oneCell' = true) :
    Calls Try.prog 72 #[.slice (some ⟨g, 0, none⟩) n cap, .int .i64 i, .slice (some ⟨vb, 0, none⟩) 1 1] w fun e w' => ∃ v', e = .returned v' ∧ w'.ownsRow base 9 1 v' (n + 1) ((cur.take n).take i ++ x :: (cur.take n).drop i) ∧ w.grownBy w' (some g) := by
  have hov : ∀ lb cb, (callFunc 82 #[.slice (some ⟨vb, 0, none⟩) 1 1, .slice (some ⟨g, i + 1, none⟩) lb cb]).run Try.prog w = .ok (.value (.bool false)) w := fun lb cb => by
    rw [run_callFunc_extern Try.func82 (by kernel_rfl) (by kernel_rfl) (by kernel_rfl) (e := Extern.SlicesOverlaps.overlaps #[22, 22] #[4]) (by kernel_rfl),
      Lib.run_overlaps_apart w 22 4 9 Try.underlying22 1 (fun _ => by kernel_rfl) ⟨vb, 0, none⟩ ⟨g, i + 1, none⟩ 1 1 lb cb hvb 9 9 1 cap (by simp [World.shape?, hvh]) (by simp [World.shape?, hh, hcur]) (by omega) (by simp [World.frozen?, hvh]) (by simp [World.frozen?, hvh])]
    rfl
  have HH := Aside0.mk hh
  have HVH := Aside0.mk hvh
  have HC := Aside0.mk hcur
  have H1 := Aside0.mk hone
  have hz2 : ¬ ((i : Int) = (n : Int)) := by omega
  have hb2 : ¬ (cap = i + 1) := by omega
  have hb4 : ¬ (cap = i) := by omega
  have hsp := splice_shift_str cur n i x hi (by omega)
  have HSP := Aside0.mk hsp
  have hdl : ((cur.take n).drop i).length = n - i := by rw [List.length_drop, List.length_take]; omega
  have HDL := Aside0.mk hdl
  have HSRC : Aside0 (∀ j u, ((cur.take n).drop i)[j]? = some u → w.cell? ⟨g, i + j, none⟩ = some u) := ⟨fun j u hj => by
    rw [List.getElem?_drop, List.getElem?_take] at hj
    rw [blk_cell hh]
    split at hj
    · simpa using hj
    · cases hj⟩
  have hvne : vb ≠ g := hvb
  have hw1 : IntKind.i64.wrap ((i : Int) + 1) = (i : Int) + 1 := by rw [IntKind.wrap_i64]; omega
  have hb1 : (0 : Int) ≤ (i : Int) + 1 := by omega
  have htn : ((i : Int) + 1).toNat = i + 1 := by omega
  have hin : i ≤ n := by omega
  have hb3 : (i : Int) ≤ (n : Int) + 1 := by omega
  clear hh hvh hcur hone hsp hdl hvb
  have hD1 : Aside0 (((cur.take n).drop i).length = Nat.min (n + 1 - i) (n + 1 - (i + 1))) := ⟨by rw [HDL.out]; simp only [Nat.min_def]; split <;> omega⟩
  have hD3 : Aside0 (i + 1 + ((cur.take n).drop i).length ≤ cur.length) := ⟨by rw [HDL.out, HC.out]; omega⟩
  have hD4 : Aside0 (∀ v ∈ (cur.take n).drop i, v.oneCell' = true) := ⟨fun v hv => H1.out v (List.mem_of_mem_drop hv)⟩
  go_enter Try.func72, Try.ntmps72
  go_wp2_with (simp only [hov])
  go_region_law ((refine step_copy_g rfl (.tmp 73) (.tmp 76) 22 22 rfl 9 Try.underlying22 siz9 (some ⟨g, i + 1, none⟩) (some ⟨g, i, none⟩) (n + 1 - (i + 1)) (cap - (i + 1)) (n + 1 - i) (cap - i) (by simp [Act.eval, Act.put]) (by simp [Act.eval, Act.put]) g (i + 1) cur 9 HH.out ((cur.take n).drop i) hD1.out (fun _ => ⟨rfl, ⟨g, i, none⟩, rfl, fun j v hj => by rw [Addr.add_lit]; exact HSRC.out j v hj⟩) hD3.out hD4.out ?_; intro w1 hw1 hg1))
  have hlt : vb < w.heap.size := blk_lt HVH.out
  have HV1 : Aside0 (w1.heap[vb]? = some (.cells #[x] 9 (0, 0))) := ⟨(hg1.out.block vb hlt (fun e => hvne (by cases e; rfl))).trans HVH.out⟩
  clear hlt
  go_wp2_with (with_reducible refine wpList_copy_g rfl (.tmp 80) (.tmp 81) 22 22 rfl 9 Try.underlying22 siz9 (some ⟨g, i, none⟩) (some ⟨vb, 0, none⟩) (n + 1 - i) (cap - i) 1 1 rfl rfl g i (splice cur (i + 1) ((cur.take n).drop i)) 9 hw1.out [x] ?e1 ?e2 ?e3 ?e4 ?_)
  case e1 => simp only [Nat.min_def, List.length_singleton]; split <;> omega
  case e2 =>
    intro j v hj
    rw [blk_cell HV1.out]
    cases j with
    | zero => simpa using hj
    | succ j => simp at hj
  case e3 => 
    rw [length_splice _ _ _ (by rw [HDL.out, HC.out]; omega), HC.out, List.length_singleton]
    omega
  case e4 => intro u hu; rw [List.mem_singleton.1 hu]; exact h1
  intro w2 hw2 hg2
  go_wp2
  go_ret
  have hmx : cap ≤ maxLen := by unfold maxLen; omega
  refine ⟨_, rfl, own_of_heap hb hw2.out ?_ hmx hn HSP.out.1, grownBy_trans (grownBy_of_drew hg1.out) hg2.out⟩
  rw [HSP.out.2, HC.out]


theorem zeroCells_length_str (n : Nat) : (Builtin.zeroCells ((.string ⟨#[]⟩) : Value).cells n).size = n := by
  simp [Builtin.zeroCells, Value.cells]

theorem splice_grow_str (cs : List Value) (n i G : Nat) (x : Value) (Z : List Value) (hl : cs.length = n) (hi : i < n) (hZ : i + Z.length = G) (hG : n + 1 ≤ G) :
    (splice (splice (cs.take i ++ Z) i [x]) (i + 1) (cs.drop i)).take (n + 1) = cs.take i ++ x :: cs.drop i ∧ (splice (splice (cs.take i ++ Z) i [x]) (i + 1) (cs.drop i)).length = G := by
  have e0 : (cs.take i ++ Z).length = G := by rw [List.length_append, List.length_take]; omega
  have e1 : (splice (cs.take i ++ Z) i [x]).length = G := by rw [length_splice _ _ _ (by rw [e0]; simp; omega), e0]
  have e2 : (cs.drop i).length = n - i := by rw [List.length_drop]; omega
  refine ⟨?_, by rw [length_splice _ _ _ (by rw [e1, e2]; omega), e1]⟩
  apply List.ext_getElem?
  intro j
  unfold splice
  simp only [List.getElem?_take, List.getElem?_append, List.length_take, List.length_append, List.length_drop, List.getElem?_drop, List.length_cons, List.length_nil, List.getElem?_cons]
  grind

set_option maxHeartbeats 4000000 in
set_option maxRecDepth 100000 in
/-- slices.Insert where there is no room. -/
theorem insert_grow_str (base b n c i : Nat) (vb : Nat) (cs : List Value) (x : Value) (w : World) (hbase : base ≤ w.heap.size) (hi : i < n) (hnc : n ≤ c) (hroom : c < n + 1) (hbig : n ≤ 8589934592) (hcl : cs.length = n)
    (hcs : ∀ j v, cs[j]? = some v → w.cell? ⟨b, j, none⟩ = some v) (hx : w.cell? ⟨vb, 0, none⟩ = some x) (h1c : ∀ v ∈ cs, v.oneCell' = true) (h1 : x.oneCell' = true) :
    Calls Try.prog 72 #[.slice (some ⟨b, 0, none⟩) n c, .int .i64 i, .slice (some ⟨vb, 0, none⟩) 1 1] w fun e w' => ∃ v', e = .returned v' ∧ w'.ownsRow base 9 1 v' (n + 1) (cs.take i ++ x :: cs.drop i) ∧ w.grownBy w' none := by
  obtain ⟨i0, hi0, hz0, hzs, hzb⟩ := info_parts info9s
  have hbw : b < w.heap.size := World.block_lt_of_cell? w ⟨b, 0, none⟩ (hcs 0 _ (List.getElem?_eq_getElem (by omega)))
  have hvw : vb < w.heap.size := World.block_lt_of_cell? w ⟨vb, 0, none⟩ hx
  have hkk : (n : Int) + 1 - (i : Int) = ((n + 1 - i : Nat) : Int) := by omega
  have hik : i + (n + 1 - i) = n + 1 := by omega
  have hold : (Builtin.firstCells i0.size i (.slice (some ⟨b, 0, none⟩) i c)).run Try.prog w.drew = .ok (cs.take i).toArray w.drew := by
    rw [hzs]
    exact run_firstCells_some w.drew 1 i ⟨b, 0, none⟩ i c (cs.take i) (by rw [List.length_take]; omega) (fun j v hj => by
      rw [Addr.add_lit, Nat.zero_add]
      rw [List.getElem?_take] at hj
      split at hj
      · exact hcs j v hj
      · cases hj)
  have hrz : ∀ ty, (Builtin.append_ #[22, 3] ty #[.slice (some ⟨b, 0, none⟩) i c, .int .i64 ((n : Int) + 1 - (i : Int))]).run Try.prog w =
      .ok (.slice (some ⟨w.heap.size, 0, none⟩) (n + 1) (grownCap w (n + 1) c 9)) (w.drew.alloc (.cells ((cs.take i).toArray ++ Builtin.zeroCells ((.string ⟨#[]⟩) : Value).cells (n + 1 - i) ++ Builtin.zeroCells ((.string ⟨#[]⟩) : Value).cells (grownCap w (n + 1) c 9 - (n + 1))) 9)) := fun ty => by
    have h := Lib.run_append_grow_zeros (P := Try.prog) w 22 3 ty 9 i0 _ .i64 .i64 Try.underlying22 Try.underlying3 hi0 hz0 (some ⟨b, 0, none⟩) i c (cs.take i) hold (n + 1 - i) (by omega) (by omega) (by omega) (by omega) (by rw [hzb]; omega) (by rw [hzb, hik]; exact growslice_fits hroom (by omega))
    rw [hik] at h
    rw [hkk]
    exact h
  have hGn : n + 1 ≤ grownCap w (n + 1) c 9 := grownCap_ge w _ _ _
  have hG63 : grownCap w (n + 1) c 9 ≤ maxLen := grownCap_le_maxLen w (n + 1) c 9 (by unfold maxLen; omega)
  generalize grownCap w (n + 1) c 9 = G at *
  obtain ⟨ZZ, hZZ⟩ : ∃ ZZ : List Value, ZZ = (Builtin.zeroCells ((.string ⟨#[]⟩) : Value).cells (n + 1 - i) ++ Builtin.zeroCells ((.string ⟨#[]⟩) : Value).cells (G - (n + 1))).toList := ⟨_, rfl⟩
  have hZl : i + ZZ.length = G := by rw [hZZ, Array.length_toList, Array.size_append, zeroCells_length_str, zeroCells_length_str]; omega
  have hrow : (cs.take i).toArray ++ Builtin.zeroCells ((.string ⟨#[]⟩) : Value).cells (n + 1 - i) ++ Builtin.zeroCells ((.string ⟨#[]⟩) : Value).cells (G - (n + 1)) = (cs.take i ++ ZZ).toArray := by
    rw [hZZ]; apply Array.ext'; simp
  simp only [hrow] at hrz
  have hsp := splice_grow_str cs n i G x ZZ hcl hi hZl hGn
  have hWl : (cs.take i ++ ZZ).length = G := by rw [List.length_append, List.length_take]; omega
  generalize hL : cs.take i ++ ZZ = ROW at *
  have hW : (w.drew.alloc (.cells ROW.toArray 9)).heap[w.heap.size]? = some (.cells ROW.toArray 9 (0, 0)) := heap_alloc_new w.drew _
  have hWg : w.grownBy (w.drew.alloc (.cells ROW.toArray 9)) none := grownBy_of_drew (World.grownBy_alloc w.drew _ _)
  have hWx : (w.drew.alloc (.cells ROW.toArray 9)).cell? ⟨vb, 0, none⟩ = some x := hWg.cell hx (by simp)
  have hWc : ∀ j v, cs[j]? = some v → (w.drew.alloc (.cells ROW.toArray 9)).cell? ⟨b, j, none⟩ = some v := fun j v hj => hWg.cell (hcs j v hj) (by simp)
  have hsz : (w.drew.alloc (.cells ROW.toArray 9)).heap.size = w.heap.size + 1 := by simp
  generalize w.drew.alloc (.cells ROW.toArray 9) = W1 at *
  have hGm : G ≤ 9223372036854775807 := by unfold maxLen at hG63; omega
  have HW := Aside0.mk hW
  have HWg := Aside0.mk hWg
  have HWx := Aside0.mk hWx
  have HWc := Aside0.mk hWc
  have HSP := Aside0.mk hsp
  have HWl := Aside0.mk hWl
  have HCL := Aside0.mk hcl
  have HSZ := Aside0.mk hsz
  have hz2 : ¬ ((i : Int) = (n : Int)) := by omega
  have hz3 : (c : Int) < (n : Int) + 1 := by omega
  have hGi : ¬ (G = i) := by omega
  have hGim : ¬ (G = i + 1) := by omega
  have hci : ¬ (c = i) := by omega
  have hw1 : IntKind.i64.wrap ((i : Int) + 1) = (i : Int) + 1 := by rw [IntKind.wrap_i64]; omega
  have hb1 : (0 : Int) ≤ (i : Int) + 1 := by omega
  have htn : ((i : Int) + 1).toNat = i + 1 := by omega
  have hin : i ≤ n := by omega
  have hrz' := Aside0.mk hrz
  clear hkk hik hold hcs hx hWx hWc hW hWg hsp hWl hL hrow hZZ hZl hcl hsz hrz
  go_enter Try.func72, Try.ntmps72
  have HDL : Aside0 ((cs.drop i).length = n - i) := ⟨by rw [List.length_drop, HCL.out]⟩
  have hD1 : Aside0 ((cs.drop i).length = Nat.min (n - i) (n + 1 - (i + 1))) := ⟨by rw [HDL.out]; simp only [Nat.min_def]; split <;> omega⟩
  have hD4 : Aside0 (∀ v ∈ cs.drop i, v.oneCell' = true) := ⟨fun v hv => h1c v (List.mem_of_mem_drop hv)⟩
  have hL1 : Aside0 ((splice ROW i [x]).length = G) := ⟨by rw [length_splice _ _ _ (by rw [HWl.out]; simp; omega), HWl.out]⟩
  have hD3 : Aside0 (i + 1 + (cs.drop i).length ≤ (splice ROW i [x]).length) := ⟨by rw [hL1.out, HDL.out]; omega⟩
  clear h1c
  go_wp2_with (first | (at_builtin; refine Lib.wpList_append_run _ rfl (.tmp 34) (.tmp 39) 22 3 rfl (.slice (some ⟨b, 0, none⟩) i c) (.int .i64 ((n : Int) + 1 - (i : Int))) rfl rfl _ _ (hrz'.out _) ?_) | (with_reducible refine wpList_copy_g rfl (.tmp 43) (.tmp 44) 22 22 rfl 9 Try.underlying22 siz9 (some ⟨w.heap.size, i, none⟩) (some ⟨vb, 0, none⟩) (n + 1 - i) (G - i) 1 1 rfl rfl w.heap.size i ROW 9 HW.out [x] ?e1 ?e2 ?e3 ?e4 ?_))
  case e1 => simp only [Nat.min_def, List.length_singleton]; split <;> omega
  case e2 =>
    intro j v hj
    cases j with
    | zero =>
      have : x = v := by simpa using hj
      rw [← this]; exact HWx.out
    | succ j => simp at hj
  case e3 => rw [HWl.out, List.length_singleton]; omega
  case e4 => intro u hu; rw [List.mem_singleton.1 hu]; exact h1
  intro w2 hw2 hg2
  have HWc2 : Aside0 (∀ j v, (cs.drop i)[j]? = some v → w2.cell? ⟨b, i + j, none⟩ = some v) := ⟨fun j v hj => hg2.out.cell (HWc.out (i + j) v (by rwa [List.getElem?_drop] at hj)) (fun e => by injection e with e; exact absurd e (Nat.ne_of_lt hbw))⟩
  go_wp2
  go_region_law ((refine step_copy_g rfl (.tmp 50) (.tmp 53) 22 22 rfl 9 Try.underlying22 siz9 (some ⟨w.heap.size, i + 1, none⟩) (some ⟨b, i, none⟩) (n + 1 - (i + 1)) (G - (i + 1)) (n - i) (c - i) (by simp [Act.eval, Act.put]) (by simp [Act.eval, Act.put]) w.heap.size (i + 1) (splice ROW i [x]) 9 hw2.out (cs.drop i) hD1.out (fun _ => ⟨rfl, ⟨b, i, none⟩, rfl, fun j v hj => by rw [Addr.add_lit]; exact HWc2.out j v hj⟩) hD3.out hD4.out ?_; intro w3 hw3 hg3))
  go_wp2
  go_ret
  refine ⟨_, rfl, own_of_heap hbase hw3.out ?_ ?_ hGn HSP.out.1, ?_⟩
  · rw [HSP.out.2]
  · unfold maxLen; exact hGm
  · have hg := grownBy_trans hg2.out (grownBy_of_drew hg3.out)
    refine ⟨hg.os.trans HWg.out.os, hg.tape.trans HWg.out.tape, hg.output.trans HWg.out.output, Nat.le_trans HWg.out.size hg.size, fun k hk _ => ?_⟩
    exact (hg.block k (Nat.lt_of_lt_of_le hk HWg.out.size) (fun e => by injection e; omega)).trans (HWg.out.block k hk (by simp))

end Go.Proofs.Ytjabcdfbncglnaa
namespace Go.Proofs.Ytjabcdfbncglnaa
open Go.RowKit Go.Proofs.YtjabcdfbncglnaaW.PrintWords Go.Proofs.YtjabcdfbncglnaaW.PrintLast Go.Proofs.YtjabcdfbncglnaaW.PrintMore
set_option linter.unusedVariables false
set_option linter.unusedSimpArgs false

/-- slices.Insert of one element into a row of one's own. -/
theorem insert_str (base n i : Nat) (v : Value) (vb : Nat) (cs : List Value) (x : Value) (w : World) (hown : w.ownsRow base 9 1 v n cs) (hbase : base ≤ w.heap.size) (hi : i ≤ n) (hbig : n ≤ 8589934592)
    (hone : ∀ u ∈ cs, u.oneCell' = true) (hvh : w.heap[vb]? = some (.cells #[x] 9 (0, 0))) (hne : v.ownBlock ≠ some vb) (h1 : x.oneCell' = true) :
    Calls Try.prog 72 #[v, .int .i64 i, .slice (some ⟨vb, 0, none⟩) 1 1] w fun e w' => ∃ v', e = .returned v' ∧ w'.ownsRow base 9 1 v' (n + 1) (cs.take i ++ x :: cs.drop i) ∧ w.grownBy w' v.ownBlock := by
  have hx : w.cell? ⟨vb, 0, none⟩ = some x := blk_cell hvh 0
  have hcl : cs.length = n := by rw [hown.1, Nat.mul_one]
  rcases Nat.lt_or_ge i n with h | h
  · obtain ⟨g, cap, cur, rfl, hb, hh, hnc, hcm, hcl2, htk⟩ := row_parts_str hown (by omega)
    have hvb : vb ≠ g := fun e => hne (by rw [e]; rfl)
    unfold maxLen at hcm
    subst htk
    rcases Nat.lt_or_ge cap (n + 1) with hr | hr
    · refine (insert_grow_str base g n cap i vb (cur.take n) x w hbase h hnc hr hbig hcl ?_ hx hone h1).mono ?_
      · intro j u hj
        rw [blk_cell hh]
        rw [List.getElem?_take] at hj
        split at hj
        · simpa using hj
        · cases hj
      · rintro e w' ⟨v', he, ho, hg⟩
        exact ⟨v', he, ho, grownBy_none hg _⟩
    · exact insert_room_str base g n cap i vb cur x w hb hh hr hcm hbig hcl2 h hone hvb hvh h1
  · obtain rfl : i = n := by omega
    refine (insert_end_str base i v vb cs x w hown hbase hbig hx h1).mono ?_
    rintro e w' ⟨v', he, ho, hg⟩
    refine ⟨v', he, ?_, hg⟩
    rw [List.take_of_length_le (by omega), List.drop_of_length_le (by omega)]
    exact ho

set_option maxHeartbeats 2000000 in
set_option maxRecDepth 100000 in
/-- a list with another element. -/
theorem changed_str (A : Option Addr) (n c i : Nat) (vs : List Value) (s : ByteArray) (w : World) (hA : 0 < n → ∃ ad, A = some ad ∧ ∀ j u, vs[j]? = some u → w.cell? (ad.add j) = some u) (hl : vs.length = n) (hbig : n ≤ 8589934592) (h1 : ∀ u ∈ vs, u.oneCell' = true) (hi : i < n) :
    Calls Try.prog 81 #[.slice A n c, .int .i64 i, (.string s)] w fun e w' => ∃ v', e = .returned v' ∧ w'.ownsRow w.heap.size 9 1 v' n (vs.set i (.string s)) ∧ Below w.heap.size w w' := by
  have hcl := Aside0.mk (clone_str A n c vs w hA hl hbig h1)
  have HL := Aside0.mk hl
  clear hA h1 hl
  go_enter Try.func81, Try.ntmps81
  go_wp2_with fail
  refine hcl.out.mono ?_
  rintro e w' ⟨v', rfl, ho, hb⟩
  obtain ⟨g, cap, cur, rfl, hgb, hh, hnc, hcm, hcl2, htk⟩ := row_parts_str ho (by omega)
  have hcap : cap ≤ 9223372036854775807 := by unfold maxLen at hcm; omega
  have hcell : w'.cell? ⟨g, i, none⟩ = some (vs[i]'(by rw [HL.out]; exact hi)) := by
    rw [ho.cellAt i (by omega), List.getElem?_eq_getElem]
  have hfz : w'.frozen? ⟨g, i, none⟩ = false := ho.frozenAt i
  have HO := Aside0.mk (ho.stored i (.string s))
  have HB := Aside0.mk (hb.setCell (p := ⟨g, i, none⟩) hgb (.string s))
  generalize vs[i]'(by rw [HL.out]; exact hi) = old at *
  clear ho hb hh hcl2 htk hcm
  go_wp2
  go_ret
  exact ⟨.slice (some ⟨g, 0, none⟩) n cap, rfl, HO.out.1, HB.out⟩

set_option maxHeartbeats 2000000 in
set_option maxRecDepth 100000 in
/-- a list with one more. -/
theorem with_str (A : Option Addr) (n c i : Nat) (vs : List Value) (s : ByteArray) (w : World) (hA : 0 < n → ∃ ad, A = some ad ∧ ∀ j u, vs[j]? = some u → w.cell? (ad.add j) = some u) (hl : vs.length = n) (hbig : n ≤ 8589934592) (h1 : ∀ u ∈ vs, u.oneCell' = true) (hi : i ≤ n) :
    Calls Try.prog 59 #[.slice A n c, .int .i64 i, (.string s)] w fun e w' => ∃ v', e = .returned v' ∧ w'.ownsRow w.heap.size 9 1 v' (n + 1) (vs.take i ++ (.string s) :: vs.drop i) ∧ Below w.heap.size w w' := by
  have hcl := Aside0.mk (clone_str A n c vs w hA hl hbig h1)
  have H1 := Aside0.mk h1
  clear hA h1 hl
  go_enter Try.func59, Try.ntmps59
  go_wp2_with fail
  refine hcl.out.mono ?_
  rintro e w' ⟨v', rfl, ho, hb⟩
  have hne : v'.ownBlock ≠ some w'.heap.size := fun e => by
    have := (ho.lt _ e).2
    omega
  have HI := Aside0.mk (insert_str w.heap.size n i v' w'.heap.size vs (.string s) (w'.alloc (.cells #[(.string s)] 9)) (ho.alloc _) (by have := hb.size; simp; omega) hi hbig H1.out (heap_alloc_new w' _) hne rfl)
  have HB := Aside0.mk hb
  have HO := Aside0.mk ho
  clear hb ho hne
  go_wp2_with fail
  refine HI.out.mono ?_
  rintro e w2 ⟨v2, rfl, ho2, hg2⟩
  have HO2 := Aside0.mk ho2
  have HG2 := Aside0.mk hg2
  clear ho2 hg2
  go_wp2
  go_ret
  exact ⟨v2, rfl, HO2.out, (HB.out.alloc HB.out.size _).grown HG2.out (by have := HB.out.size; simp; omega) (fun k hk => (HO.out.lt k hk).1)⟩
end Go.Proofs.Ytjabcdfbncglnaa
namespace Go.Proofs.Ytjabcdfbncglnaa
open Go.RowKit Go.Proofs.YtjabcdfbncglnaaW.PrintWords Go.Proofs.YtjabcdfbncglnaaW.PrintLast Go.Proofs.YtjabcdfbncglnaaW.PrintMore
set_option linter.unusedVariables false
set_option linter.unusedSimpArgs false

theorem info2s : (Try.prog.info? 2).map (fun i => (i.zero, i.size, i.bytes)) = some (some (.int .i64 0), 1, 8) := by kernel_rfl
theorem siz2 : (Try.prog.info? 2).map (·.size) = some 1 := by kernel_rfl
theorem q83 (w : World) (a : Option Addr) (n c n' c' : Nat) : (binOp .eql 83 (.slice a n c) (.slice none n' c')).run Try.prog w = .ok (.bool a.isNone) w := Lib.run_eql_slice_nil w _ _ a n c n' c' Try.underlying83

set_option maxHeartbeats 2000000 in
set_option maxRecDepth 100000 in
/-- slices.Clone at int. -/
theorem clone_int (A : Option Addr) (n c : Nat) (vs : List Value) (w : World) (hA : 0 < n → ∃ ad, A = some ad ∧ ∀ j u, vs[j]? = some u → w.cell? (ad.add j) = some u) (hl : vs.length = n) (hbig : n ≤ 8589934592) (h1 : ∀ u ∈ vs, u.oneCell' = true) :
    Calls Try.prog 70 #[.slice A n c] w fun e w' => ∃ v', e = .returned v' ∧ w'.ownsRow w.heap.size 2 1 v' n vs ∧ Below w.heap.size w w' := by
  have q22 := q83
  obtain ⟨i0, hi, hz0, hz1, hz2⟩ := info_parts info2s
  cases A with
  | none =>
    have h0 : n = 0 := by
      rcases Nat.eq_zero_or_pos n with h | h
      · exact h
      · obtain ⟨_, h2, _⟩ := hA h; cases h2
    subst h0
    obtain rfl := List.length_eq_zero_iff.1 hl
    clear hA
    go_enter Try.func70, Try.ntmps70
    go_wp2
    go_ret
    exact ⟨_, rfl, World.ownsRow_nil _ _ _ _, Below.refl _ _⟩
  | some ad =>
    have HA : Aside0 (∀ j u, vs[j]? = some u → w.cell? (ad.add j) = some u) := ⟨fun j u hj => by
      have : j < vs.length := (List.getElem?_eq_some_iff.1 hj).1
      obtain ⟨ad', e, h⟩ := hA (by omega)
      cases e
      exact h j u hj⟩
    have HL := Aside0.mk hl
    have H1 := Aside0.mk h1
    have hmx : n ≤ maxLen := by unfold maxLen; omega
    clear hA hl h1
    go_enter Try.func70, Try.ntmps70
    go_wp2_with (at_builtin; refine wpList_append_own _ rfl _ _ 83 rfl w.heap.size 2 i0 (.int .i64 0) 1 8 Try.underlying83 hi hz0 hz1 hz2 rfl (by decide) _ _ _ rfl (World.ownsRow_made w #[] 0 (Nat.le_refl _) (Nat.zero_le _) (by simp)) ad n c vs rfl ?qc1 ?qc2 ?qc3 ?qc4 ?qc5 ?qc6 ?_)
    case qc1 => rw [Nat.mul_one]; exact HL.out
    case qc2 =>
      intro j u hj
      exact Lib.cell?_alloc_some _ (HA.out j u hj)
    case qc3 => exact H1.out
    case qc4 => rw [Nat.zero_add]; exact hmx
    case qc5 => rw [Nat.zero_add]; omega
    case qc6 => simp
    intro v' w1 hown hgrow hnil
    have hown' := Aside0.mk hown
    have hgrow' := Aside0.mk hgrow
    clear hown hgrow hnil
    go_wp2
    go_ret
    refine ⟨v', rfl, by simpa using hown'.out, ?_⟩
    exact ((Below.refl _ w).alloc (Nat.le_refl _) _).grown hgrow'.out (by simp) (by intro k hk; simp [Value.ownBlock] at hk; omega)

/-- The slots of a row of one's own that is not nil. -/
theorem row_parts_int {w : World} {base n : Nat} {v : Value} {cs : List Value} (h : w.ownsRow base 2 1 v n cs) (hn : 0 < n) :
    ∃ g cap cur, v = .slice (some ⟨g, 0, none⟩) n cap ∧ base ≤ g ∧ w.heap[g]? = some (.cells (List.toArray cur) 2 (0, 0)) ∧ n ≤ cap ∧ cap ≤ maxLen ∧ cur.length = cap ∧ cur.take n = cs := by
  rcases h.2 with ⟨rfl, rfl⟩ | ⟨g, cap, cur, rfl, hb, hh, h1, h2, h3, h4⟩
  · omega
  · exact ⟨g, cap, cur.toList, rfl, hb, by simpa using hh, h1, h2, by simpa using h3, by simpa using h4⟩

end Go.Proofs.Ytjabcdfbncglnaa
namespace Go.Proofs.Ytjabcdfbncglnaa
open Go.RowKit Go.Proofs.YtjabcdfbncglnaaW.PrintWords Go.Proofs.YtjabcdfbncglnaaW.PrintLast Go.Proofs.YtjabcdfbncglnaaW.PrintMore
set_option linter.unusedVariables false
set_option linter.unusedSimpArgs false

set_option maxHeartbeats 2000000 in
set_option maxRecDepth 100000 in
/-- slices.Insert at the end of a row of one's own. -/
theorem insert_end_int (base n : Nat) (v : Value) (vb : Nat) (cs : List Value) (x : Value) (w : World) (hown : w.ownsRow base 2 1 v n cs) (hbase : base ≤ w.heap.size) (hbig : n ≤ 8589934592)
    (hx : w.cell? ⟨vb, 0, none⟩ = some x) (h1 : x.oneCell' = true) :
    Calls Try.prog 73 #[v, .int .i64 n, .slice (some ⟨vb, 0, none⟩) 1 1] w fun e w' => ∃ v', e = .returned v' ∧ w'.ownsRow base 2 1 v' (n + 1) (cs ++ [x]) ∧ w.grownBy w' v.ownBlock := by
  obtain ⟨i0, hi, hz0, hz1, hz2⟩ := info_parts info2s
  have hs : ∃ A c, v = .slice A n c ∧ n ≤ c ∧ c ≤ 9223372036854775807 := by
    rcases hown.2 with ⟨rfl, rfl⟩ | ⟨g, cap, cur, rfl, hb, hh, h1, h2, h3, h4⟩
    · exact ⟨none, 0, rfl, Nat.le_refl _, Nat.zero_le _⟩
    · exact ⟨_, cap, rfl, h1, by unfold maxLen at h2; omega⟩
  obtain ⟨A, c, rfl, hnc, hcm⟩ := hs
  have HO := Aside0.mk hown
  have hmx : n + 1 ≤ maxLen := by unfold maxLen; omega
  clear hown
  go_enter Try.func73, Try.ntmps73
  go_wp2_with (at_builtin; refine wpList_append_own _ rfl (.tmp 23) (.tmp 24) 83 rfl base 2 i0 (.int .i64 0) 1 8 Try.underlying83 hi hz0 hz1 hz2 rfl (by decide) _ n cs rfl HO.out ⟨vb, 0, none⟩ 1 1 [x] rfl ?qc1 ?qc2 ?qc3 ?qc4 ?qc5 ?qc6 ?_)
  case qc1 => rfl
  case qc2 =>
    intro j u hj
    rw [Addr.add_lit]
    cases j with
    | zero => simpa using (by simpa using hj : x = u) ▸ hx
    | succ j => simp at hj
  case qc3 => intro u hu; rw [List.mem_singleton.1 hu]; exact h1
  case qc4 => exact hmx
  case qc5 => omega
  case qc6 => exact hbase
  all_goals
    intro v' w1 ho hg hne
    have ho := Aside0.mk ho
    have hg := Aside0.mk hg
    clear hne
    go_wp2
    go_ret
    exact ⟨v', rfl, ho.out, by cases A <;> exact hg.out⟩

theorem splice_shift_int (cur : List Value) (n i : Nat) (x : Value) (hi : i < n) (hc : n + 1 ≤ cur.length) :
    (splice (splice cur (i + 1) ((cur.take n).drop i)) i [x]).take (n + 1) = (cur.take n).take i ++ x :: (cur.take n).drop i ∧ (splice (splice cur (i + 1) ((cur.take n).drop i)) i [x]).length = cur.length := by
  have e1 : ((cur.take n).drop i).length = n - i := by rw [List.length_drop, List.length_take]; omega
  have e2 : (splice cur (i + 1) ((cur.take n).drop i)).length = cur.length := length_splice _ _ _ (by omega)
  refine ⟨?_, by rw [length_splice _ _ _ (by simp; omega), e2]⟩
  apply List.ext_getElem?
  intro j
  unfold splice
  simp only [List.getElem?_take, List.getElem?_append, List.length_take, List.length_append, List.length_drop, List.getElem?_drop, List.length_cons, List.length_nil, List.getElem?_cons]
  grind

set_option maxHeartbeats 4000000 in
set_option maxRecDepth 100000 in
/-- slices.Insert into a row of one's own, where there is room. -/
theorem insert_room_int (base g n cap i : Nat) (vb : Nat) (cur : List Value) (x : Value) (w : World) (hb : base ≤ g) (hh : w.heap[g]? = some (.cells cur.toArray 2 (0, 0))) (hn : n + 1 ≤ cap) (hm : cap ≤ 9223372036854775807) (hbig : n ≤ 8589934592) (hcur : cur.length = cap) (hi : i < n)
    (hone : ∀ u ∈ cur.take n, u.oneCell' = true) (hvb : vb ≠ g) (hvh : w.heap[vb]? = some (.cells #[x] 2 (0, 0))) (h1 : x.oneCell' = true) :
    Calls Try.prog 73 #[.slice (some ⟨g, 0, none⟩) n cap, .int .i64 i, .slice (some ⟨vb, 0, none⟩) 1 1] w fun e w' => ∃ v', e = .returned v' ∧ w'.ownsRow base 2 1 v' (n + 1) ((cur.take n).take i ++ x :: (cur.take n).drop i) ∧ w.grownBy w' (some g) := by
  have hov : ∀ lb cb, (callFunc 84 #[.slice (some ⟨vb, 0, none⟩) 1 1, .slice (some ⟨g, i + 1, none⟩) lb cb]).run Try.prog w = .ok (.value (.bool false)) w := fun lb cb => by
    rw [run_callFunc_extern Try.func84 (by kernel_rfl) (by kernel_rfl) (by kernel_rfl) (e := Extern.SlicesOverlaps.overlaps #[83, 83] #[4]) (by kernel_rfl),
      Lib.run_overlaps_apart w 83 4 2 Try.underlying83 1 (fun _ => by kernel_rfl) ⟨vb, 0, none⟩ ⟨g, i + 1, none⟩ 1 1 lb cb hvb 2 2 1 cap (by simp [World.shape?, hvh]) (by simp [World.shape?, hh, hcur]) (by omega) (by simp [World.frozen?, hvh]) (by simp [World.frozen?, hvh])]
    rfl
  have HH := Aside0.mk hh
  have HVH := Aside0.mk hvh
  have HC := Aside0.mk hcur
  have H1 := Aside0.mk hone
  have hz2 : ¬ ((i : Int) = (n : Int)) := by omega
  have hb2 : ¬ (cap = i + 1) := by omega
  have hb4 : ¬ (cap = i) := by omega
  have hsp := splice_shift_int cur n i x hi (by omega)
  have HSP := Aside0.mk hsp
  have hdl : ((cur.take n).drop i).length = n - i := by rw [List.length_drop, List.length_take]; omega
  have HDL := Aside0.mk hdl
  have HSRC : Aside0 (∀ j u, ((cur.take n).drop i)[j]? = some u → w.cell? ⟨g, i + j, none⟩ = some u) := ⟨fun j u hj => by
    rw [List.getElem?_drop, List.getElem?_take] at hj
    rw [blk_cell hh]
    split at hj
    · simpa using hj
    · cases hj⟩
  have hvne : vb ≠ g := hvb
  have hw1 : IntKind.i64.wrap ((i : Int) + 1) = (i : Int) + 1 := by rw [IntKind.wrap_i64]; omega
  have hb1 : (0 : Int) ≤ (i : Int) + 1 := by omega
  have htn : ((i : Int) + 1).toNat = i + 1 := by omega
  have hin : i ≤ n := by omega
  have hb3 : (i : Int) ≤ (n : Int) + 1 := by omega
  clear hh hvh hcur hone hsp hdl hvb
  have hD1 : Aside0 (((cur.take n).drop i).length = Nat.min (n + 1 - i) (n + 1 - (i + 1))) := ⟨by rw [HDL.out]; simp only [Nat.min_def]; split <;> omega⟩
  have hD3 : Aside0 (i + 1 + ((cur.take n).drop i).length ≤ cur.length) := ⟨by rw [HDL.out, HC.out]; omega⟩
  have hD4 : Aside0 (∀ v ∈ (cur.take n).drop i, v.oneCell' = true) := ⟨fun v hv => H1.out v (List.mem_of_mem_drop hv)⟩
  go_enter Try.func73, Try.ntmps73
  go_wp2_with (simp only [hov])
  go_region_law ((refine step_copy_g rfl (.tmp 73) (.tmp 76) 83 83 rfl 2 Try.underlying83 siz2 (some ⟨g, i + 1, none⟩) (some ⟨g, i, none⟩) (n + 1 - (i + 1)) (cap - (i + 1)) (n + 1 - i) (cap - i) (by simp [Act.eval, Act.put]) (by simp [Act.eval, Act.put]) g (i + 1) cur 2 HH.out ((cur.take n).drop i) hD1.out (fun _ => ⟨rfl, ⟨g, i, none⟩, rfl, fun j v hj => by rw [Addr.add_lit]; exact HSRC.out j v hj⟩) hD3.out hD4.out ?_; intro w1 hw1 hg1))
  have hlt : vb < w.heap.size := blk_lt HVH.out
  have HV1 : Aside0 (w1.heap[vb]? = some (.cells #[x] 2 (0, 0))) := ⟨(hg1.out.block vb hlt (fun e => hvne (by cases e; rfl))).trans HVH.out⟩
  clear hlt
  go_wp2_with (with_reducible refine wpList_copy_g rfl (.tmp 80) (.tmp 81) 83 83 rfl 2 Try.underlying83 siz2 (some ⟨g, i, none⟩) (some ⟨vb, 0, none⟩) (n + 1 - i) (cap - i) 1 1 rfl rfl g i (splice cur (i + 1) ((cur.take n).drop i)) 2 hw1.out [x] ?e1 ?e2 ?e3 ?e4 ?_)
  case e1 => simp only [Nat.min_def, List.length_singleton]; split <;> omega
  case e2 =>
    intro j v hj
    rw [blk_cell HV1.out]
    cases j with
    | zero => simpa using hj
    | succ j => simp at hj
  case e3 => 
    rw [length_splice _ _ _ (by rw [HDL.out, HC.out]; omega), HC.out, List.length_singleton]
    omega
  case e4 => intro u hu; rw [List.mem_singleton.1 hu]; exact h1
  intro w2 hw2 hg2
  go_wp2
  go_ret
  have hmx : cap ≤ maxLen := by unfold maxLen; omega
  refine ⟨_, rfl, own_of_heap hb hw2.out ?_ hmx hn HSP.out.1, grownBy_trans (grownBy_of_drew hg1.out) hg2.out⟩
  rw [HSP.out.2, HC.out]


theorem zeroCells_length_int (n : Nat) : (Builtin.zeroCells ((.int .i64 0) : Value).cells n).size = n := by
  simp [Builtin.zeroCells, Value.cells]

theorem splice_grow_int (cs : List Value) (n i G : Nat) (x : Value) (Z : List Value) (hl : cs.length = n) (hi : i < n) (hZ : i + Z.length = G) (hG : n + 1 ≤ G) :
    (splice (splice (cs.take i ++ Z) i [x]) (i + 1) (cs.drop i)).take (n + 1) = cs.take i ++ x :: cs.drop i ∧ (splice (splice (cs.take i ++ Z) i [x]) (i + 1) (cs.drop i)).length = G := by
  have e0 : (cs.take i ++ Z).length = G := by rw [List.length_append, List.length_take]; omega
  have e1 : (splice (cs.take i ++ Z) i [x]).length = G := by rw [length_splice _ _ _ (by rw [e0]; simp; omega), e0]
  have e2 : (cs.drop i).length = n - i := by rw [List.length_drop]; omega
  refine ⟨?_, by rw [length_splice _ _ _ (by rw [e1, e2]; omega), e1]⟩
  apply List.ext_getElem?
  intro j
  unfold splice
  simp only [List.getElem?_take, List.getElem?_append, List.length_take, List.length_append, List.length_drop, List.getElem?_drop, List.length_cons, List.length_nil, List.getElem?_cons]
  grind

set_option maxHeartbeats 4000000 in
set_option maxRecDepth 100000 in
/-- slices.Insert where there is no room. -/
theorem insert_grow_int (base b n c i : Nat) (vb : Nat) (cs : List Value) (x : Value) (w : World) (hbase : base ≤ w.heap.size) (hi : i < n) (hnc : n ≤ c) (hroom : c < n + 1) (hbig : n ≤ 8589934592) (hcl : cs.length = n)
    (hcs : ∀ j v, cs[j]? = some v → w.cell? ⟨b, j, none⟩ = some v) (hx : w.cell? ⟨vb, 0, none⟩ = some x) (h1c : ∀ v ∈ cs, v.oneCell' = true) (h1 : x.oneCell' = true) :
    Calls Try.prog 73 #[.slice (some ⟨b, 0, none⟩) n c, .int .i64 i, .slice (some ⟨vb, 0, none⟩) 1 1] w fun e w' => ∃ v', e = .returned v' ∧ w'.ownsRow base 2 1 v' (n + 1) (cs.take i ++ x :: cs.drop i) ∧ w.grownBy w' none := by
  obtain ⟨i0, hi0, hz0, hzs, hzb⟩ := info_parts info2s
  have hbw : b < w.heap.size := World.block_lt_of_cell? w ⟨b, 0, none⟩ (hcs 0 _ (List.getElem?_eq_getElem (by omega)))
  have hvw : vb < w.heap.size := World.block_lt_of_cell? w ⟨vb, 0, none⟩ hx
  have hkk : (n : Int) + 1 - (i : Int) = ((n + 1 - i : Nat) : Int) := by omega
  have hik : i + (n + 1 - i) = n + 1 := by omega
  have hold : (Builtin.firstCells i0.size i (.slice (some ⟨b, 0, none⟩) i c)).run Try.prog w.drew = .ok (cs.take i).toArray w.drew := by
    rw [hzs]
    exact run_firstCells_some w.drew 1 i ⟨b, 0, none⟩ i c (cs.take i) (by rw [List.length_take]; omega) (fun j v hj => by
      rw [Addr.add_lit, Nat.zero_add]
      rw [List.getElem?_take] at hj
      split at hj
      · exact hcs j v hj
      · cases hj)
  have hrz : ∀ ty, (Builtin.append_ #[83, 3] ty #[.slice (some ⟨b, 0, none⟩) i c, .int .i64 ((n : Int) + 1 - (i : Int))]).run Try.prog w =
      .ok (.slice (some ⟨w.heap.size, 0, none⟩) (n + 1) (grownCap w (n + 1) c 2)) (w.drew.alloc (.cells ((cs.take i).toArray ++ Builtin.zeroCells ((.int .i64 0) : Value).cells (n + 1 - i) ++ Builtin.zeroCells ((.int .i64 0) : Value).cells (grownCap w (n + 1) c 2 - (n + 1))) 2)) := fun ty => by
    have h := Lib.run_append_grow_zeros (P := Try.prog) w 83 3 ty 2 i0 _ .i64 .i64 Try.underlying83 Try.underlying3 hi0 hz0 (some ⟨b, 0, none⟩) i c (cs.take i) hold (n + 1 - i) (by omega) (by omega) (by omega) (by omega) (by rw [hzb]; omega) (by rw [hzb, hik]; exact growslice_fits hroom (by omega))
    rw [hik] at h
    rw [hkk]
    exact h
  have hGn : n + 1 ≤ grownCap w (n + 1) c 2 := grownCap_ge w _ _ _
  have hG63 : grownCap w (n + 1) c 2 ≤ maxLen := grownCap_le_maxLen w (n + 1) c 2 (by unfold maxLen; omega)
  generalize grownCap w (n + 1) c 2 = G at *
  obtain ⟨ZZ, hZZ⟩ : ∃ ZZ : List Value, ZZ = (Builtin.zeroCells ((.int .i64 0) : Value).cells (n + 1 - i) ++ Builtin.zeroCells ((.int .i64 0) : Value).cells (G - (n + 1))).toList := ⟨_, rfl⟩
  have hZl : i + ZZ.length = G := by rw [hZZ, Array.length_toList, Array.size_append, zeroCells_length_int, zeroCells_length_int]; omega
  have hrow : (cs.take i).toArray ++ Builtin.zeroCells ((.int .i64 0) : Value).cells (n + 1 - i) ++ Builtin.zeroCells ((.int .i64 0) : Value).cells (G - (n + 1)) = (cs.take i ++ ZZ).toArray := by
    rw [hZZ]; apply Array.ext'; simp
  simp only [hrow] at hrz
  have hsp := splice_grow_int cs n i G x ZZ hcl hi hZl hGn
  have hWl : (cs.take i ++ ZZ).length = G := by rw [List.length_append, List.length_take]; omega
  generalize hL : cs.take i ++ ZZ = ROW at *
  have hW : (w.drew.alloc (.cells ROW.toArray 2)).heap[w.heap.size]? = some (.cells ROW.toArray 2 (0, 0)) := heap_alloc_new w.drew _
  have hWg : w.grownBy (w.drew.alloc (.cells ROW.toArray 2)) none := grownBy_of_drew (World.grownBy_alloc w.drew _ _)
  have hWx : (w.drew.alloc (.cells ROW.toArray 2)).cell? ⟨vb, 0, none⟩ = some x := hWg.cell hx (by simp)
  have hWc : ∀ j v, cs[j]? = some v → (w.drew.alloc (.cells ROW.toArray 2)).cell? ⟨b, j, none⟩ = some v := fun j v hj => hWg.cell (hcs j v hj) (by simp)
  have hsz : (w.drew.alloc (.cells ROW.toArray 2)).heap.size = w.heap.size + 1 := by simp
  generalize w.drew.alloc (.cells ROW.toArray 2) = W1 at *
  have hGm : G ≤ 9223372036854775807 := by unfold maxLen at hG63; omega
  have HW := Aside0.mk hW
  have HWg := Aside0.mk hWg
  have HWx := Aside0.mk hWx
  have HWc := Aside0.mk hWc
  have HSP := Aside0.mk hsp
  have HWl := Aside0.mk hWl
  have HCL := Aside0.mk hcl
  have HSZ := Aside0.mk hsz
  have hz2 : ¬ ((i : Int) = (n : Int)) := by omega
  have hz3 : (c : Int) < (n : Int) + 1 := by omega
  have hGi : ¬ (G = i) := by omega
  have hGim : ¬ (G = i + 1) := by omega
  have hci : ¬ (c = i) := by omega
  have hw1 : IntKind.i64.wrap ((i : Int) + 1) = (i : Int) + 1 := by rw [IntKind.wrap_i64]; omega
  have hb1 : (0 : Int) ≤ (i : Int) + 1 := by omega
  have htn : ((i : Int) + 1).toNat = i + 1 := by omega
  have hin : i ≤ n := by omega
  have hrz' := Aside0.mk hrz
  clear hkk hik hold hcs hx hWx hWc hW hWg hsp hWl hL hrow hZZ hZl hcl hsz hrz
  go_enter Try.func73, Try.ntmps73
  have HDL : Aside0 ((cs.drop i).length = n - i) := ⟨by rw [List.length_drop, HCL.out]⟩
  have hD1 : Aside0 ((cs.drop i).length = Nat.min (n - i) (n + 1 - (i + 1))) := ⟨by rw [HDL.out]; simp only [Nat.min_def]; split <;> omega⟩
  have hD4 : Aside0 (∀ v ∈ cs.drop i, v.oneCell' = true) := ⟨fun v hv => h1c v (List.mem_of_mem_drop hv)⟩
  have hL1 : Aside0 ((splice ROW i [x]).length = G) := ⟨by rw [length_splice _ _ _ (by rw [HWl.out]; simp; omega), HWl.out]⟩
  have hD3 : Aside0 (i + 1 + (cs.drop i).length ≤ (splice ROW i [x]).length) := ⟨by rw [hL1.out, HDL.out]; omega⟩
  clear h1c
  go_wp2_with (first | (at_builtin; refine Lib.wpList_append_run _ rfl (.tmp 34) (.tmp 39) 83 3 rfl (.slice (some ⟨b, 0, none⟩) i c) (.int .i64 ((n : Int) + 1 - (i : Int))) rfl rfl _ _ (hrz'.out _) ?_) | (with_reducible refine wpList_copy_g rfl (.tmp 43) (.tmp 44) 83 83 rfl 2 Try.underlying83 siz2 (some ⟨w.heap.size, i, none⟩) (some ⟨vb, 0, none⟩) (n + 1 - i) (G - i) 1 1 rfl rfl w.heap.size i ROW 2 HW.out [x] ?e1 ?e2 ?e3 ?e4 ?_))
  case e1 => simp only [Nat.min_def, List.length_singleton]; split <;> omega
  case e2 =>
    intro j v hj
    cases j with
    | zero =>
      have : x = v := by simpa using hj
      rw [← this]; exact HWx.out
    | succ j => simp at hj
  case e3 => rw [HWl.out, List.length_singleton]; omega
  case e4 => intro u hu; rw [List.mem_singleton.1 hu]; exact h1
  intro w2 hw2 hg2
  have HWc2 : Aside0 (∀ j v, (cs.drop i)[j]? = some v → w2.cell? ⟨b, i + j, none⟩ = some v) := ⟨fun j v hj => hg2.out.cell (HWc.out (i + j) v (by rwa [List.getElem?_drop] at hj)) (fun e => by injection e with e; exact absurd e (Nat.ne_of_lt hbw))⟩
  go_wp2
  go_region_law ((refine step_copy_g rfl (.tmp 50) (.tmp 53) 83 83 rfl 2 Try.underlying83 siz2 (some ⟨w.heap.size, i + 1, none⟩) (some ⟨b, i, none⟩) (n + 1 - (i + 1)) (G - (i + 1)) (n - i) (c - i) (by simp [Act.eval, Act.put]) (by simp [Act.eval, Act.put]) w.heap.size (i + 1) (splice ROW i [x]) 2 hw2.out (cs.drop i) hD1.out (fun _ => ⟨rfl, ⟨b, i, none⟩, rfl, fun j v hj => by rw [Addr.add_lit]; exact HWc2.out j v hj⟩) hD3.out hD4.out ?_; intro w3 hw3 hg3))
  go_wp2
  go_ret
  refine ⟨_, rfl, own_of_heap hbase hw3.out ?_ ?_ hGn HSP.out.1, ?_⟩
  · rw [HSP.out.2]
  · unfold maxLen; exact hGm
  · have hg := grownBy_trans hg2.out (grownBy_of_drew hg3.out)
    refine ⟨hg.os.trans HWg.out.os, hg.tape.trans HWg.out.tape, hg.output.trans HWg.out.output, Nat.le_trans HWg.out.size hg.size, fun k hk _ => ?_⟩
    exact (hg.block k (Nat.lt_of_lt_of_le hk HWg.out.size) (fun e => by injection e; omega)).trans (HWg.out.block k hk (by simp))

end Go.Proofs.Ytjabcdfbncglnaa
namespace Go.Proofs.Ytjabcdfbncglnaa
open Go.RowKit Go.Proofs.YtjabcdfbncglnaaW.PrintWords Go.Proofs.YtjabcdfbncglnaaW.PrintLast Go.Proofs.YtjabcdfbncglnaaW.PrintMore
set_option linter.unusedVariables false
set_option linter.unusedSimpArgs false

/-- slices.Insert of one element into a row of one's own. -/
theorem insert_int (base n i : Nat) (v : Value) (vb : Nat) (cs : List Value) (x : Value) (w : World) (hown : w.ownsRow base 2 1 v n cs) (hbase : base ≤ w.heap.size) (hi : i ≤ n) (hbig : n ≤ 8589934592)
    (hone : ∀ u ∈ cs, u.oneCell' = true) (hvh : w.heap[vb]? = some (.cells #[x] 2 (0, 0))) (hne : v.ownBlock ≠ some vb) (h1 : x.oneCell' = true) :
    Calls Try.prog 73 #[v, .int .i64 i, .slice (some ⟨vb, 0, none⟩) 1 1] w fun e w' => ∃ v', e = .returned v' ∧ w'.ownsRow base 2 1 v' (n + 1) (cs.take i ++ x :: cs.drop i) ∧ w.grownBy w' v.ownBlock := by
  have hx : w.cell? ⟨vb, 0, none⟩ = some x := blk_cell hvh 0
  have hcl : cs.length = n := by rw [hown.1, Nat.mul_one]
  rcases Nat.lt_or_ge i n with h | h
  · obtain ⟨g, cap, cur, rfl, hb, hh, hnc, hcm, hcl2, htk⟩ := row_parts_int hown (by omega)
    have hvb : vb ≠ g := fun e => hne (by rw [e]; rfl)
    unfold maxLen at hcm
    subst htk
    rcases Nat.lt_or_ge cap (n + 1) with hr | hr
    · refine (insert_grow_int base g n cap i vb (cur.take n) x w hbase h hnc hr hbig hcl ?_ hx hone h1).mono ?_
      · intro j u hj
        rw [blk_cell hh]
        rw [List.getElem?_take] at hj
        split at hj
        · simpa using hj
        · cases hj
      · rintro e w' ⟨v', he, ho, hg⟩
        exact ⟨v', he, ho, grownBy_none hg _⟩
    · exact insert_room_int base g n cap i vb cur x w hb hh hr hcm hbig hcl2 h hone hvb hvh h1
  · obtain rfl : i = n := by omega
    refine (insert_end_int base i v vb cs x w hown hbase hbig hx h1).mono ?_
    rintro e w' ⟨v', he, ho, hg⟩
    refine ⟨v', he, ?_, hg⟩
    rw [List.take_of_length_le (by omega), List.drop_of_length_le (by omega)]
    exact ho

set_option maxHeartbeats 2000000 in
set_option maxRecDepth 100000 in
/-- a list with another element. -/
theorem changed_int (A : Option Addr) (n c i : Nat) (vs : List Value) (s : Int) (w : World) (hA : 0 < n → ∃ ad, A = some ad ∧ ∀ j u, vs[j]? = some u → w.cell? (ad.add j) = some u) (hl : vs.length = n) (hbig : n ≤ 8589934592) (h1 : ∀ u ∈ vs, u.oneCell' = true) (hi : i < n) :
    Calls Try.prog 57 #[.slice A n c, .int .i64 i, (.int .i64 s)] w fun e w' => ∃ v', e = .returned v' ∧ w'.ownsRow w.heap.size 2 1 v' n (vs.set i (.int .i64 s)) ∧ Below w.heap.size w w' := by
  have hcl := Aside0.mk (clone_int A n c vs w hA hl hbig h1)
  have HL := Aside0.mk hl
  clear hA h1 hl
  go_enter Try.func57, Try.ntmps57
  go_wp2_with fail
  refine hcl.out.mono ?_
  rintro e w' ⟨v', rfl, ho, hb⟩
  obtain ⟨g, cap, cur, rfl, hgb, hh, hnc, hcm, hcl2, htk⟩ := row_parts_int ho (by omega)
  have hcap : cap ≤ 9223372036854775807 := by unfold maxLen at hcm; omega
  have hcell : w'.cell? ⟨g, i, none⟩ = some (vs[i]'(by rw [HL.out]; exact hi)) := by
    rw [ho.cellAt i (by omega), List.getElem?_eq_getElem]
  have hfz : w'.frozen? ⟨g, i, none⟩ = false := ho.frozenAt i
  have HO := Aside0.mk (ho.stored i (.int .i64 s))
  have HB := Aside0.mk (hb.setCell (p := ⟨g, i, none⟩) hgb (.int .i64 s))
  generalize vs[i]'(by rw [HL.out]; exact hi) = old at *
  clear ho hb hh hcl2 htk hcm
  go_wp2
  go_ret
  exact ⟨.slice (some ⟨g, 0, none⟩) n cap, rfl, HO.out.1, HB.out⟩

set_option maxHeartbeats 2000000 in
set_option maxRecDepth 100000 in
/-- a list with one more. -/
theorem with_int (A : Option Addr) (n c i : Nat) (vs : List Value) (s : Int) (w : World) (hA : 0 < n → ∃ ad, A = some ad ∧ ∀ j u, vs[j]? = some u → w.cell? (ad.add j) = some u) (hl : vs.length = n) (hbig : n ≤ 8589934592) (h1 : ∀ u ∈ vs, u.oneCell' = true) (hi : i ≤ n) :
    Calls Try.prog 60 #[.slice A n c, .int .i64 i, (.int .i64 s)] w fun e w' => ∃ v', e = .returned v' ∧ w'.ownsRow w.heap.size 2 1 v' (n + 1) (vs.take i ++ (.int .i64 s) :: vs.drop i) ∧ Below w.heap.size w w' := by
  have hcl := Aside0.mk (clone_int A n c vs w hA hl hbig h1)
  have H1 := Aside0.mk h1
  clear hA h1 hl
  go_enter Try.func60, Try.ntmps60
  go_wp2_with fail
  refine hcl.out.mono ?_
  rintro e w' ⟨v', rfl, ho, hb⟩
  have hne : v'.ownBlock ≠ some w'.heap.size := fun e => by
    have := (ho.lt _ e).2
    omega
  have HI := Aside0.mk (insert_int w.heap.size n i v' w'.heap.size vs (.int .i64 s) (w'.alloc (.cells #[(.int .i64 s)] 2)) (ho.alloc _) (by have := hb.size; simp; omega) hi hbig H1.out (heap_alloc_new w' _) hne rfl)
  have HB := Aside0.mk hb
  have HO := Aside0.mk ho
  clear hb ho hne
  go_wp2_with fail
  refine HI.out.mono ?_
  rintro e w2 ⟨v2, rfl, ho2, hg2⟩
  have HO2 := Aside0.mk ho2
  have HG2 := Aside0.mk hg2
  clear ho2 hg2
  go_wp2
  go_ret
  exact ⟨v2, rfl, HO2.out, (HB.out.alloc HB.out.size _).grown HG2.out (by have := HB.out.size; simp; omega) (fun k hk => (HO.out.lt k hk).1)⟩
end Go.Proofs.Ytjabcdfbncglnaa
namespace Go.Proofs.Ytjabcdfbncglnaa
open Go.RowKit Go.Proofs.YtjabcdfbncglnaaW.PrintWords Go.Proofs.YtjabcdfbncglnaaW.PrintLast Go.Proofs.YtjabcdfbncglnaaW.PrintMore
set_option linter.unusedVariables false
set_option linter.unusedSimpArgs false

theorem info69s : (Try.prog.info? 69).map (fun i => (i.zero, i.size, i.bytes)) = some (some .nilIface, 1, 16) := by kernel_rfl
theorem siz69 : (Try.prog.info? 69).map (·.size) = some 1 := by kernel_rfl
theorem q79 (w : World) (a : Option Addr) (n c n' c' : Nat) : (binOp .eql 79 (.slice a n c) (.slice none n' c')).run Try.prog w = .ok (.bool a.isNone) w := Lib.run_eql_slice_nil w _ _ a n c n' c' Try.underlying79

set_option maxHeartbeats 2000000 in
set_option maxRecDepth 100000 in
/-- slices.Clone at node. -/
theorem clone_node (A : Option Addr) (n c : Nat) (vs : List Value) (w : World) (hA : 0 < n → ∃ ad, A = some ad ∧ ∀ j u, vs[j]? = some u → w.cell? (ad.add j) = some u) (hl : vs.length = n) (hbig : n ≤ 8589934592) (h1 : ∀ u ∈ vs, u.oneCell' = true) :
    Calls Try.prog 74 #[.slice A n c] w fun e w' => ∃ v', e = .returned v' ∧ w'.ownsRow w.heap.size 69 1 v' n vs ∧ Below w.heap.size w w' := by
  have q22 := q79
  obtain ⟨i0, hi, hz0, hz1, hz2⟩ := info_parts info69s
  cases A with
  | none =>
    have h0 : n = 0 := by
      rcases Nat.eq_zero_or_pos n with h | h
      · exact h
      · obtain ⟨_, h2, _⟩ := hA h; cases h2
    subst h0
    obtain rfl := List.length_eq_zero_iff.1 hl
    clear hA
    go_enter Try.func74, Try.ntmps74
    go_wp2
    go_ret
    exact ⟨_, rfl, World.ownsRow_nil _ _ _ _, Below.refl _ _⟩
  | some ad =>
    have HA : Aside0 (∀ j u, vs[j]? = some u → w.cell? (ad.add j) = some u) := ⟨fun j u hj => by
      have : j < vs.length := (List.getElem?_eq_some_iff.1 hj).1
      obtain ⟨ad', e, h⟩ := hA (by omega)
      cases e
      exact h j u hj⟩
    have HL := Aside0.mk hl
    have H1 := Aside0.mk h1
    have hmx : n ≤ maxLen := by unfold maxLen; omega
    clear hA hl h1
    go_enter Try.func74, Try.ntmps74
    go_wp2_with (at_builtin; refine wpList_append_own _ rfl _ _ 79 rfl w.heap.size 69 i0 .nilIface 1 16 Try.underlying79 hi hz0 hz1 hz2 rfl (by decide) _ _ _ rfl (World.ownsRow_made w #[] 0 (Nat.le_refl _) (Nat.zero_le _) (by simp)) ad n c vs rfl ?qc1 ?qc2 ?qc3 ?qc4 ?qc5 ?qc6 ?_)
    case qc1 => rw [Nat.mul_one]; exact HL.out
    case qc2 =>
      intro j u hj
      exact Lib.cell?_alloc_some _ (HA.out j u hj)
    case qc3 => exact H1.out
    case qc4 => rw [Nat.zero_add]; exact hmx
    case qc5 => rw [Nat.zero_add]; omega
    case qc6 => simp
    intro v' w1 hown hgrow hnil
    have hown' := Aside0.mk hown
    have hgrow' := Aside0.mk hgrow
    clear hown hgrow hnil
    go_wp2
    go_ret
    refine ⟨v', rfl, by simpa using hown'.out, ?_⟩
    exact ((Below.refl _ w).alloc (Nat.le_refl _) _).grown hgrow'.out (by simp) (by intro k hk; simp [Value.ownBlock] at hk; omega)

/-- The slots of a row of one's own that is not nil. -/
theorem row_parts_node {w : World} {base n : Nat} {v : Value} {cs : List Value} (h : w.ownsRow base 69 1 v n cs) (hn : 0 < n) :
    ∃ g cap cur, v = .slice (some ⟨g, 0, none⟩) n cap ∧ base ≤ g ∧ w.heap[g]? = some (.cells (List.toArray cur) 69 (0, 0)) ∧ n ≤ cap ∧ cap ≤ maxLen ∧ cur.length = cap ∧ cur.take n = cs := by
  rcases h.2 with ⟨rfl, rfl⟩ | ⟨g, cap, cur, rfl, hb, hh, h1, h2, h3, h4⟩
  · omega
  · exact ⟨g, cap, cur.toList, rfl, hb, by simpa using hh, h1, h2, by simpa using h3, by simpa using h4⟩

end Go.Proofs.Ytjabcdfbncglnaa
namespace Go.Proofs.Ytjabcdfbncglnaa
open Go.RowKit Go.Proofs.YtjabcdfbncglnaaW.PrintWords Go.Proofs.YtjabcdfbncglnaaW.PrintLast Go.Proofs.YtjabcdfbncglnaaW.PrintMore
set_option linter.unusedVariables false
set_option linter.unusedSimpArgs false

set_option maxHeartbeats 2000000 in
set_option maxRecDepth 100000 in
/-- slices.Insert at the end of a row of one's own. -/
theorem insert_end_node (base n : Nat) (v : Value) (vb : Nat) (cs : List Value) (x : Value) (w : World) (hown : w.ownsRow base 69 1 v n cs) (hbase : base ≤ w.heap.size) (hbig : n ≤ 8589934592)
    (hx : w.cell? ⟨vb, 0, none⟩ = some x) (h1 : x.oneCell' = true) :
    Calls Try.prog 63 #[v, .int .i64 n, .slice (some ⟨vb, 0, none⟩) 1 1] w fun e w' => ∃ v', e = .returned v' ∧ w'.ownsRow base 69 1 v' (n + 1) (cs ++ [x]) ∧ w.grownBy w' v.ownBlock := by
  obtain ⟨i0, hi, hz0, hz1, hz2⟩ := info_parts info69s
  have hs : ∃ A c, v = .slice A n c ∧ n ≤ c ∧ c ≤ 9223372036854775807 := by
    rcases hown.2 with ⟨rfl, rfl⟩ | ⟨g, cap, cur, rfl, hb, hh, h1, h2, h3, h4⟩
    · exact ⟨none, 0, rfl, Nat.le_refl _, Nat.zero_le _⟩
    · exact ⟨_, cap, rfl, h1, by unfold maxLen at h2; omega⟩
  obtain ⟨A, c, rfl, hnc, hcm⟩ := hs
  have HO := Aside0.mk hown
  have hmx : n + 1 ≤ maxLen := by unfold maxLen; omega
  clear hown
  go_enter Try.func63, Try.ntmps63
  go_wp2_with (at_builtin; refine wpList_append_own _ rfl (.tmp 23) (.tmp 24) 79 rfl base 69 i0 .nilIface 1 16 Try.underlying79 hi hz0 hz1 hz2 rfl (by decide) _ n cs rfl HO.out ⟨vb, 0, none⟩ 1 1 [x] rfl ?qc1 ?qc2 ?qc3 ?qc4 ?qc5 ?qc6 ?_)
  case qc1 => rfl
  case qc2 =>
    intro j u hj
    rw [Addr.add_lit]
    cases j with
    | zero => simpa using (by simpa using hj : x = u) ▸ hx
    | succ j => simp at hj
  case qc3 => intro u hu; rw [List.mem_singleton.1 hu]; exact h1
  case qc4 => exact hmx
  case qc5 => omega
  case qc6 => exact hbase
  all_goals
    intro v' w1 ho hg hne
    have ho := Aside0.mk ho
    have hg := Aside0.mk hg
    clear hne
    go_wp2
    go_ret
    exact ⟨v', rfl, ho.out, by cases A <;> exact hg.out⟩

theorem splice_shift_node (cur : List Value) (n i : Nat) (x : Value) (hi : i < n) (hc : n + 1 ≤ cur.length) :
    (splice (splice cur (i + 1) ((cur.take n).drop i)) i [x]).take (n + 1) = (cur.take n).take i ++ x :: (cur.take n).drop i ∧ (splice (splice cur (i + 1) ((cur.take n).drop i)) i [x]).length = cur.length := by
  have e1 : ((cur.take n).drop i).length = n - i := by rw [List.length_drop, List.length_take]; omega
  have e2 : (splice cur (i + 1) ((cur.take n).drop i)).length = cur.length := length_splice _ _ _ (by omega)
  refine ⟨?_, by rw [length_splice _ _ _ (by simp; omega), e2]⟩
  apply List.ext_getElem?
  intro j
  unfold splice
  simp only [List.getElem?_take, List.getElem?_append, List.length_take, List.length_append, List.length_drop, List.getElem?_drop, List.length_cons, List.length_nil, List.getElem?_cons]
  grind

set_option maxHeartbeats 4000000 in
set_option maxRecDepth 100000 in
/-- slices.Insert into a row of one's own, where there is room. -/
theorem insert_room_node (base g n cap i : Nat) (vb : Nat) (cur : List Value) (x : Value) (w : World) (hb : base ≤ g) (hh : w.heap[g]? = some (.cells cur.toArray 69 (0, 0))) (hn : n + 1 ≤ cap) (hm : cap ≤ 9223372036854775807) (hbig : n ≤ 8589934592) (hcur : cur.length = cap) (hi : i < n)
    (hone : ∀ u ∈ cur.take n, u.oneCell' = true) (hvb : vb ≠ g) (hvh : w.heap[vb]? = some (.cells #[x] 69 (0, 0))) (h1 : x.oneCell' = true) :
    Calls Try.prog 63 #[.slice (some ⟨g, 0, none⟩) n cap, .int .i64 i, .slice (some ⟨vb, 0, none⟩) 1 1] w fun e w' => ∃ v', e = .returned v' ∧ w'.ownsRow base 69 1 v' (n + 1) ((cur.take n).take i ++ x :: (cur.take n).drop i) ∧ w.grownBy w' (some g) := by
  have hov : ∀ lb cb, (callFunc 75 #[.slice (some ⟨vb, 0, none⟩) 1 1, .slice (some ⟨g, i + 1, none⟩) lb cb]).run Try.prog w = .ok (.value (.bool false)) w := fun lb cb => by
    rw [run_callFunc_extern Try.func75 (by kernel_rfl) (by kernel_rfl) (by kernel_rfl) (e := Extern.SlicesOverlaps.overlaps #[79, 79] #[4]) (by kernel_rfl),
      Lib.run_overlaps_apart w 79 4 69 Try.underlying79 1 (fun _ => by kernel_rfl) ⟨vb, 0, none⟩ ⟨g, i + 1, none⟩ 1 1 lb cb hvb 69 69 1 cap (by simp [World.shape?, hvh]) (by simp [World.shape?, hh, hcur]) (by omega) (by simp [World.frozen?, hvh]) (by simp [World.frozen?, hvh])]
    rfl
  have HH := Aside0.mk hh
  have HVH := Aside0.mk hvh
  have HC := Aside0.mk hcur
  have H1 := Aside0.mk hone
  have hz2 : ¬ ((i : Int) = (n : Int)) := by omega
  have hb2 : ¬ (cap = i + 1) := by omega
  have hb4 : ¬ (cap = i) := by omega
  have hsp := splice_shift_node cur n i x hi (by omega)
  have HSP := Aside0.mk hsp
  have hdl : ((cur.take n).drop i).length = n - i := by rw [List.length_drop, List.length_take]; omega
  have HDL := Aside0.mk hdl
  have HSRC : Aside0 (∀ j u, ((cur.take n).drop i)[j]? = some u → w.cell? ⟨g, i + j, none⟩ = some u) := ⟨fun j u hj => by
    rw [List.getElem?_drop, List.getElem?_take] at hj
    rw [blk_cell hh]
    split at hj
    · simpa using hj
    · cases hj⟩
  have hvne : vb ≠ g := hvb
  have hw1 : IntKind.i64.wrap ((i : Int) + 1) = (i : Int) + 1 := by rw [IntKind.wrap_i64]; omega
  have hb1 : (0 : Int) ≤ (i : Int) + 1 := by omega
  have htn : ((i : Int) + 1).toNat = i + 1 := by omega
  have hin : i ≤ n := by omega
  have hb3 : (i : Int) ≤ (n : Int) + 1 := by omega
  clear hh hvh hcur hone hsp hdl hvb
  have hD1 : Aside0 (((cur.take n).drop i).length = Nat.min (n + 1 - i) (n + 1 - (i + 1))) := ⟨by rw [HDL.out]; simp only [Nat.min_def]; split <;> omega⟩
  have hD3 : Aside0 (i + 1 + ((cur.take n).drop i).length ≤ cur.length) := ⟨by rw [HDL.out, HC.out]; omega⟩
  have hD4 : Aside0 (∀ v ∈ (cur.take n).drop i, v.oneCell' = true) := ⟨fun v hv => H1.out v (List.mem_of_mem_drop hv)⟩
  go_enter Try.func63, Try.ntmps63
  go_wp2_with (simp only [hov])
  go_region_law ((refine step_copy_g rfl (.tmp 73) (.tmp 76) 79 79 rfl 69 Try.underlying79 siz69 (some ⟨g, i + 1, none⟩) (some ⟨g, i, none⟩) (n + 1 - (i + 1)) (cap - (i + 1)) (n + 1 - i) (cap - i) (by simp [Act.eval, Act.put]) (by simp [Act.eval, Act.put]) g (i + 1) cur 69 HH.out ((cur.take n).drop i) hD1.out (fun _ => ⟨rfl, ⟨g, i, none⟩, rfl, fun j v hj => by rw [Addr.add_lit]; exact HSRC.out j v hj⟩) hD3.out hD4.out ?_; intro w1 hw1 hg1))
  have hlt : vb < w.heap.size := blk_lt HVH.out
  have HV1 : Aside0 (w1.heap[vb]? = some (.cells #[x] 69 (0, 0))) := ⟨(hg1.out.block vb hlt (fun e => hvne (by cases e; rfl))).trans HVH.out⟩
  clear hlt
  go_wp2_with (with_reducible refine wpList_copy_g rfl (.tmp 80) (.tmp 81) 79 79 rfl 69 Try.underlying79 siz69 (some ⟨g, i, none⟩) (some ⟨vb, 0, none⟩) (n + 1 - i) (cap - i) 1 1 rfl rfl g i (splice cur (i + 1) ((cur.take n).drop i)) 69 hw1.out [x] ?e1 ?e2 ?e3 ?e4 ?_)
  case e1 => simp only [Nat.min_def, List.length_singleton]; split <;> omega
  case e2 =>
    intro j v hj
    rw [blk_cell HV1.out]
    cases j with
    | zero => simpa using hj
    | succ j => simp at hj
  case e3 => 
    rw [length_splice _ _ _ (by rw [HDL.out, HC.out]; omega), HC.out, List.length_singleton]
    omega
  case e4 => intro u hu; rw [List.mem_singleton.1 hu]; exact h1
  intro w2 hw2 hg2
  go_wp2
  go_ret
  have hmx : cap ≤ maxLen := by unfold maxLen; omega
  refine ⟨_, rfl, own_of_heap hb hw2.out ?_ hmx hn HSP.out.1, grownBy_trans (grownBy_of_drew hg1.out) hg2.out⟩
  rw [HSP.out.2, HC.out]


theorem zeroCells_length_node (n : Nat) : (Builtin.zeroCells (.nilIface : Value).cells n).size = n := by
  simp [Builtin.zeroCells, Value.cells]

theorem splice_grow_node (cs : List Value) (n i G : Nat) (x : Value) (Z : List Value) (hl : cs.length = n) (hi : i < n) (hZ : i + Z.length = G) (hG : n + 1 ≤ G) :
    (splice (splice (cs.take i ++ Z) i [x]) (i + 1) (cs.drop i)).take (n + 1) = cs.take i ++ x :: cs.drop i ∧ (splice (splice (cs.take i ++ Z) i [x]) (i + 1) (cs.drop i)).length = G := by
  have e0 : (cs.take i ++ Z).length = G := by rw [List.length_append, List.length_take]; omega
  have e1 : (splice (cs.take i ++ Z) i [x]).length = G := by rw [length_splice _ _ _ (by rw [e0]; simp; omega), e0]
  have e2 : (cs.drop i).length = n - i := by rw [List.length_drop]; omega
  refine ⟨?_, by rw [length_splice _ _ _ (by rw [e1, e2]; omega), e1]⟩
  apply List.ext_getElem?
  intro j
  unfold splice
  simp only [List.getElem?_take, List.getElem?_append, List.length_take, List.length_append, List.length_drop, List.getElem?_drop, List.length_cons, List.length_nil, List.getElem?_cons]
  grind

set_option maxHeartbeats 4000000 in
set_option maxRecDepth 100000 in
/-- slices.Insert where there is no room. -/
theorem insert_grow_node (base b n c i : Nat) (vb : Nat) (cs : List Value) (x : Value) (w : World) (hbase : base ≤ w.heap.size) (hi : i < n) (hnc : n ≤ c) (hroom : c < n + 1) (hbig : n ≤ 8589934592) (hcl : cs.length = n)
    (hcs : ∀ j v, cs[j]? = some v → w.cell? ⟨b, j, none⟩ = some v) (hx : w.cell? ⟨vb, 0, none⟩ = some x) (h1c : ∀ v ∈ cs, v.oneCell' = true) (h1 : x.oneCell' = true) :
    Calls Try.prog 63 #[.slice (some ⟨b, 0, none⟩) n c, .int .i64 i, .slice (some ⟨vb, 0, none⟩) 1 1] w fun e w' => ∃ v', e = .returned v' ∧ w'.ownsRow base 69 1 v' (n + 1) (cs.take i ++ x :: cs.drop i) ∧ w.grownBy w' none := by
  obtain ⟨i0, hi0, hz0, hzs, hzb⟩ := info_parts info69s
  have hbw : b < w.heap.size := World.block_lt_of_cell? w ⟨b, 0, none⟩ (hcs 0 _ (List.getElem?_eq_getElem (by omega)))
  have hvw : vb < w.heap.size := World.block_lt_of_cell? w ⟨vb, 0, none⟩ hx
  have hkk : (n : Int) + 1 - (i : Int) = ((n + 1 - i : Nat) : Int) := by omega
  have hik : i + (n + 1 - i) = n + 1 := by omega
  have hold : (Builtin.firstCells i0.size i (.slice (some ⟨b, 0, none⟩) i c)).run Try.prog w.drew = .ok (cs.take i).toArray w.drew := by
    rw [hzs]
    exact run_firstCells_some w.drew 1 i ⟨b, 0, none⟩ i c (cs.take i) (by rw [List.length_take]; omega) (fun j v hj => by
      rw [Addr.add_lit, Nat.zero_add]
      rw [List.getElem?_take] at hj
      split at hj
      · exact hcs j v hj
      · cases hj)
  have hrz : ∀ ty, (Builtin.append_ #[79, 3] ty #[.slice (some ⟨b, 0, none⟩) i c, .int .i64 ((n : Int) + 1 - (i : Int))]).run Try.prog w =
      .ok (.slice (some ⟨w.heap.size, 0, none⟩) (n + 1) (grownCap w (n + 1) c 69)) (w.drew.alloc (.cells ((cs.take i).toArray ++ Builtin.zeroCells (.nilIface : Value).cells (n + 1 - i) ++ Builtin.zeroCells (.nilIface : Value).cells (grownCap w (n + 1) c 69 - (n + 1))) 69)) := fun ty => by
    have h := Lib.run_append_grow_zeros (P := Try.prog) w 79 3 ty 69 i0 _ .i64 .i64 Try.underlying79 Try.underlying3 hi0 hz0 (some ⟨b, 0, none⟩) i c (cs.take i) hold (n + 1 - i) (by omega) (by omega) (by omega) (by omega) (by rw [hzb]; omega) (by rw [hzb, hik]; exact growslice_fits hroom (by omega))
    rw [hik] at h
    rw [hkk]
    exact h
  have hGn : n + 1 ≤ grownCap w (n + 1) c 69 := grownCap_ge w _ _ _
  have hG63 : grownCap w (n + 1) c 69 ≤ maxLen := grownCap_le_maxLen w (n + 1) c 69 (by unfold maxLen; omega)
  generalize grownCap w (n + 1) c 69 = G at *
  obtain ⟨ZZ, hZZ⟩ : ∃ ZZ : List Value, ZZ = (Builtin.zeroCells (.nilIface : Value).cells (n + 1 - i) ++ Builtin.zeroCells (.nilIface : Value).cells (G - (n + 1))).toList := ⟨_, rfl⟩
  have hZl : i + ZZ.length = G := by rw [hZZ, Array.length_toList, Array.size_append, zeroCells_length_node, zeroCells_length_node]; omega
  have hrow : (cs.take i).toArray ++ Builtin.zeroCells (.nilIface : Value).cells (n + 1 - i) ++ Builtin.zeroCells (.nilIface : Value).cells (G - (n + 1)) = (cs.take i ++ ZZ).toArray := by
    rw [hZZ]; apply Array.ext'; simp
  simp only [hrow] at hrz
  have hsp := splice_grow_node cs n i G x ZZ hcl hi hZl hGn
  have hWl : (cs.take i ++ ZZ).length = G := by rw [List.length_append, List.length_take]; omega
  generalize hL : cs.take i ++ ZZ = ROW at *
  have hW : (w.drew.alloc (.cells ROW.toArray 69)).heap[w.heap.size]? = some (.cells ROW.toArray 69 (0, 0)) := heap_alloc_new w.drew _
  have hWg : w.grownBy (w.drew.alloc (.cells ROW.toArray 69)) none := grownBy_of_drew (World.grownBy_alloc w.drew _ _)
  have hWx : (w.drew.alloc (.cells ROW.toArray 69)).cell? ⟨vb, 0, none⟩ = some x := hWg.cell hx (by simp)
  have hWc : ∀ j v, cs[j]? = some v → (w.drew.alloc (.cells ROW.toArray 69)).cell? ⟨b, j, none⟩ = some v := fun j v hj => hWg.cell (hcs j v hj) (by simp)
  have hsz : (w.drew.alloc (.cells ROW.toArray 69)).heap.size = w.heap.size + 1 := by simp
  generalize w.drew.alloc (.cells ROW.toArray 69) = W1 at *
  have hGm : G ≤ 9223372036854775807 := by unfold maxLen at hG63; omega
  have HW := Aside0.mk hW
  have HWg := Aside0.mk hWg
  have HWx := Aside0.mk hWx
  have HWc := Aside0.mk hWc
  have HSP := Aside0.mk hsp
  have HWl := Aside0.mk hWl
  have HCL := Aside0.mk hcl
  have HSZ := Aside0.mk hsz
  have hz2 : ¬ ((i : Int) = (n : Int)) := by omega
  have hz3 : (c : Int) < (n : Int) + 1 := by omega
  have hGi : ¬ (G = i) := by omega
  have hGim : ¬ (G = i + 1) := by omega
  have hci : ¬ (c = i) := by omega
  have hw1 : IntKind.i64.wrap ((i : Int) + 1) = (i : Int) + 1 := by rw [IntKind.wrap_i64]; omega
  have hb1 : (0 : Int) ≤ (i : Int) + 1 := by omega
  have htn : ((i : Int) + 1).toNat = i + 1 := by omega
  have hin : i ≤ n := by omega
  have hrz' := Aside0.mk hrz
  clear hkk hik hold hcs hx hWx hWc hW hWg hsp hWl hL hrow hZZ hZl hcl hsz hrz
  go_enter Try.func63, Try.ntmps63
  have HDL : Aside0 ((cs.drop i).length = n - i) := ⟨by rw [List.length_drop, HCL.out]⟩
  have hD1 : Aside0 ((cs.drop i).length = Nat.min (n - i) (n + 1 - (i + 1))) := ⟨by rw [HDL.out]; simp only [Nat.min_def]; split <;> omega⟩
  have hD4 : Aside0 (∀ v ∈ cs.drop i, v.oneCell' = true) := ⟨fun v hv => h1c v (List.mem_of_mem_drop hv)⟩
  have hL1 : Aside0 ((splice ROW i [x]).length = G) := ⟨by rw [length_splice _ _ _ (by rw [HWl.out]; simp; omega), HWl.out]⟩
  have hD3 : Aside0 (i + 1 + (cs.drop i).length ≤ (splice ROW i [x]).length) := ⟨by rw [hL1.out, HDL.out]; omega⟩
  clear h1c
  go_wp2_with (first | (at_builtin; refine Lib.wpList_append_run _ rfl (.tmp 34) (.tmp 39) 79 3 rfl (.slice (some ⟨b, 0, none⟩) i c) (.int .i64 ((n : Int) + 1 - (i : Int))) rfl rfl _ _ (hrz'.out _) ?_) | (with_reducible refine wpList_copy_g rfl (.tmp 43) (.tmp 44) 79 79 rfl 69 Try.underlying79 siz69 (some ⟨w.heap.size, i, none⟩) (some ⟨vb, 0, none⟩) (n + 1 - i) (G - i) 1 1 rfl rfl w.heap.size i ROW 69 HW.out [x] ?e1 ?e2 ?e3 ?e4 ?_))
  case e1 => simp only [Nat.min_def, List.length_singleton]; split <;> omega
  case e2 =>
    intro j v hj
    cases j with
    | zero =>
      have : x = v := by simpa using hj
      rw [← this]; exact HWx.out
    | succ j => simp at hj
  case e3 => rw [HWl.out, List.length_singleton]; omega
  case e4 => intro u hu; rw [List.mem_singleton.1 hu]; exact h1
  intro w2 hw2 hg2
  have HWc2 : Aside0 (∀ j v, (cs.drop i)[j]? = some v → w2.cell? ⟨b, i + j, none⟩ = some v) := ⟨fun j v hj => hg2.out.cell (HWc.out (i + j) v (by rwa [List.getElem?_drop] at hj)) (fun e => by injection e with e; exact absurd e (Nat.ne_of_lt hbw))⟩
  go_wp2
  go_region_law ((refine step_copy_g rfl (.tmp 50) (.tmp 53) 79 79 rfl 69 Try.underlying79 siz69 (some ⟨w.heap.size, i + 1, none⟩) (some ⟨b, i, none⟩) (n + 1 - (i + 1)) (G - (i + 1)) (n - i) (c - i) (by simp [Act.eval, Act.put]) (by simp [Act.eval, Act.put]) w.heap.size (i + 1) (splice ROW i [x]) 69 hw2.out (cs.drop i) hD1.out (fun _ => ⟨rfl, ⟨b, i, none⟩, rfl, fun j v hj => by rw [Addr.add_lit]; exact HWc2.out j v hj⟩) hD3.out hD4.out ?_; intro w3 hw3 hg3))
  go_wp2
  go_ret
  refine ⟨_, rfl, own_of_heap hbase hw3.out ?_ ?_ hGn HSP.out.1, ?_⟩
  · rw [HSP.out.2]
  · unfold maxLen; exact hGm
  · have hg := grownBy_trans hg2.out (grownBy_of_drew hg3.out)
    refine ⟨hg.os.trans HWg.out.os, hg.tape.trans HWg.out.tape, hg.output.trans HWg.out.output, Nat.le_trans HWg.out.size hg.size, fun k hk _ => ?_⟩
    exact (hg.block k (Nat.lt_of_lt_of_le hk HWg.out.size) (fun e => by injection e; omega)).trans (HWg.out.block k hk (by simp))

end Go.Proofs.Ytjabcdfbncglnaa
namespace Go.Proofs.Ytjabcdfbncglnaa
open Go.RowKit Go.Proofs.YtjabcdfbncglnaaW.PrintWords Go.Proofs.YtjabcdfbncglnaaW.PrintLast Go.Proofs.YtjabcdfbncglnaaW.PrintMore
set_option linter.unusedVariables false
set_option linter.unusedSimpArgs false

/-- slices.Insert of one element into a row of one's own. -/
theorem insert_node (base n i : Nat) (v : Value) (vb : Nat) (cs : List Value) (x : Value) (w : World) (hown : w.ownsRow base 69 1 v n cs) (hbase : base ≤ w.heap.size) (hi : i ≤ n) (hbig : n ≤ 8589934592)
    (hone : ∀ u ∈ cs, u.oneCell' = true) (hvh : w.heap[vb]? = some (.cells #[x] 69 (0, 0))) (hne : v.ownBlock ≠ some vb) (h1 : x.oneCell' = true) :
    Calls Try.prog 63 #[v, .int .i64 i, .slice (some ⟨vb, 0, none⟩) 1 1] w fun e w' => ∃ v', e = .returned v' ∧ w'.ownsRow base 69 1 v' (n + 1) (cs.take i ++ x :: cs.drop i) ∧ w.grownBy w' v.ownBlock := by
  have hx : w.cell? ⟨vb, 0, none⟩ = some x := blk_cell hvh 0
  have hcl : cs.length = n := by rw [hown.1, Nat.mul_one]
  rcases Nat.lt_or_ge i n with h | h
  · obtain ⟨g, cap, cur, rfl, hb, hh, hnc, hcm, hcl2, htk⟩ := row_parts_node hown (by omega)
    have hvb : vb ≠ g := fun e => hne (by rw [e]; rfl)
    unfold maxLen at hcm
    subst htk
    rcases Nat.lt_or_ge cap (n + 1) with hr | hr
    · refine (insert_grow_node base g n cap i vb (cur.take n) x w hbase h hnc hr hbig hcl ?_ hx hone h1).mono ?_
      · intro j u hj
        rw [blk_cell hh]
        rw [List.getElem?_take] at hj
        split at hj
        · simpa using hj
        · cases hj
      · rintro e w' ⟨v', he, ho, hg⟩
        exact ⟨v', he, ho, grownBy_none hg _⟩
    · exact insert_room_node base g n cap i vb cur x w hb hh hr hcm hbig hcl2 h hone hvb hvh h1
  · obtain rfl : i = n := by omega
    refine (insert_end_node base i v vb cs x w hown hbase hbig hx h1).mono ?_
    rintro e w' ⟨v', he, ho, hg⟩
    refine ⟨v', he, ?_, hg⟩
    rw [List.take_of_length_le (by omega), List.drop_of_length_le (by omega)]
    exact ho

set_option maxHeartbeats 2000000 in
set_option maxRecDepth 100000 in
/-- a list with another element. -/
theorem changed_node (A : Option Addr) (n c i : Nat) (vs : List Value) (ty bt : Nat) (w : World) (hA : 0 < n → ∃ ad, A = some ad ∧ ∀ j u, vs[j]? = some u → w.cell? (ad.add j) = some u) (hl : vs.length = n) (hbig : n ≤ 8589934592) (h1 : ∀ u ∈ vs, u.oneCell' = true) (hi : i < n) :
    Calls Try.prog 61 #[.slice A n c, .int .i64 i, (.iface ty (.pointer (some ⟨bt, 0, none⟩)))] w fun e w' => ∃ v', e = .returned v' ∧ w'.ownsRow w.heap.size 69 1 v' n (vs.set i (.iface ty (.pointer (some ⟨bt, 0, none⟩)))) ∧ Below w.heap.size w w' := by
  have hcl := Aside0.mk (clone_node A n c vs w hA hl hbig h1)
  have HL := Aside0.mk hl
  clear hA h1 hl
  go_enter Try.func61, Try.ntmps61
  go_wp2_with fail
  refine hcl.out.mono ?_
  rintro e w' ⟨v', rfl, ho, hb⟩
  obtain ⟨g, cap, cur, rfl, hgb, hh, hnc, hcm, hcl2, htk⟩ := row_parts_node ho (by omega)
  have hcap : cap ≤ 9223372036854775807 := by unfold maxLen at hcm; omega
  have hcell : w'.cell? ⟨g, i, none⟩ = some (vs[i]'(by rw [HL.out]; exact hi)) := by
    rw [ho.cellAt i (by omega), List.getElem?_eq_getElem]
  have hfz : w'.frozen? ⟨g, i, none⟩ = false := ho.frozenAt i
  have HO := Aside0.mk (ho.stored i (.iface ty (.pointer (some ⟨bt, 0, none⟩))))
  have HB := Aside0.mk (hb.setCell (p := ⟨g, i, none⟩) hgb (.iface ty (.pointer (some ⟨bt, 0, none⟩))))
  generalize vs[i]'(by rw [HL.out]; exact hi) = old at *
  clear ho hb hh hcl2 htk hcm
  go_wp2
  go_ret
  exact ⟨.slice (some ⟨g, 0, none⟩) n cap, rfl, HO.out.1, HB.out⟩

end Go.Proofs.Ytjabcdfbncglnaa
