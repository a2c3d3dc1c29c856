/- WHAT IS PROVED: slices.Insert of nodes into a row of one's own is the insertion. with of nodes makes a row of its own with one element more. how rows of one's own make a leaf and an inner node. newInner makes an inner node of keys and kids. halveLeaf of a leaf that is full gives two leaves. halve of an inner node gives one or two inner nodes. put into a leaf gives the leaf with the key, in halves if need be. what put computes on a tree of any depth, and its size. well-formed trees, and where a key stands in one. put keeps a leaf well-formed, and the flat list of a tree rises. -/
import Derived.Test.YtjabcdfbncglnaaMOwn0
import Derived.Deep.RegionHeld3
namespace Go.Proofs.Ytjabcdfbncglnaa
open Go.RowKit Go.Proofs.YtjabcdfbncglnaaW.PrintWords Go.Proofs.YtjabcdfbncglnaaW.PrintLast Go.Proofs.YtjabcdfbncglnaaW.PrintMore
set_option linter.unusedVariables false
set_option linter.unusedSimpArgs false

set_option maxHeartbeats 2000000 in
set_option maxRecDepth 100000 in
/-- slices.Insert at the end of a row of one's own. -/
theorem insert_end_node (base n : Nat) (v : Value) (vb : Nat) (cs : List Value) (x : Value) (w : World) (hown : w.ownsRow base 69 1 v n cs) (hbase : base ≤ w.heap.size) (hbig : n ≤ 8589934592)
    (hx : w.cell? ⟨vb, 0, none⟩ = some x) (h1 : x.oneCell' = true) :
    Calls Try.prog 63 #[v, .int .i64 n, .slice (some ⟨vb, 0, none⟩) 1 1] w fun e w' => ∃ v', e = .returned v' ∧ w'.ownsRow base 69 1 v' (n + 1) (cs ++ [x]) ∧ w.grownBy w' v.ownBlock := by
  obtain ⟨i0, hi, hz0, hz1, hz2⟩ := info_parts info69s
  have hs : ∃ A c, v = .slice A n c ∧ n ≤ c ∧ c ≤ 9223372036854775807 := by
    rcases hown.2 with ⟨rfl, rfl⟩ | ⟨g, cap, cur, rfl, hb, hh, h1, h2, h3, h4⟩
    · exact ⟨none, 0, rfl, Nat.le_refl _, Nat.zero_le _⟩
    · exact ⟨_, cap, rfl, h1, by unfold maxLen at h2; omega⟩
  obtain ⟨A, c, rfl, hnc, hcm⟩ := hs
  have HO := Aside0.mk hown
  have hmx : n + 1 ≤ maxLen := by unfold maxLen; omega
  clear hown
  go_enter Try.func63, Try.ntmps63
  go_wp2_with (at_builtin; refine wpList_append_own _ rfl (.tmp 23) (.tmp 24) 79 rfl base 69 i0 .nilIface 1 16 Try.underlying79 hi hz0 hz1 hz2 rfl (by decide) _ n cs rfl HO.out ⟨vb, 0, none⟩ 1 1 [x] rfl ?qc1 ?qc2 ?qc3 ?qc4 ?qc5 ?qc6 ?_)
  case qc1 => rfl
  case qc2 =>
    intro j u hj
    rw [Addr.add_lit]
    cases j with
    | zero => simpa using (by simpa using hj : x = u) ▸ hx
    | succ j => simp at hj
  case qc3 => intro u hu; rw [List.mem_singleton.1 hu]; exact h1
  case qc4 => exact hmx
  case qc5 => omega
  case qc6 => exact hbase
  all_goals
    intro v' w1 ho hg hne
    have ho := Aside0.mk ho
    have hg := Aside0.mk hg
    clear hne
    go_wp2
    go_ret
    exact ⟨v', rfl, ho.out, by cases A <;> exact hg.out⟩

theorem splice_shift_node (cur : List Value) (n i : Nat) (x : Value) (hi : i < n) (hc : n + 1 ≤ cur.length) :
    (splice (splice cur (i + 1) ((cur.take n).drop i)) i [x]).take (n + 1) = (cur.take n).take i ++ x :: (cur.take n).drop i ∧ (splice (splice cur (i + 1) ((cur.take n).drop i)) i [x]).length = cur.length := by
  have e1 : ((cur.take n).drop i).length = n - i := by rw [List.length_drop, List.length_take]; omega
  have e2 : (splice cur (i + 1) ((cur.take n).drop i)).length = cur.length := length_splice _ _ _ (by omega)
  refine ⟨?_, by rw [length_splice _ _ _ (by simp; omega), e2]⟩
  apply List.ext_getElem?
  intro j
  unfold splice
  simp only [List.getElem?_take, List.getElem?_append, List.length_take, List.length_append, List.length_drop, List.getElem?_drop, List.length_cons, List.length_nil, List.getElem?_cons]
  grind

set_option maxHeartbeats 4000000 in
set_option maxRecDepth 100000 in
/-- slices.Insert into a row of one's own, where there is room. -/
theorem insert_room_node (base g n cap i : Nat) (vb : Nat) (cur : List Value) (x : Value) (w : World) (hb : base ≤ g) (hh : w.heap[g]? = some (.cells cur.toArray 69 (0, 0))) (hn : n + 1 ≤ cap) (hm : cap ≤ 9223372036854775807) (hbig : n ≤ 8589934592) (hcur : cur.length = cap) (hi : i < n)
    (hone : ∀ u ∈ cur.take n, u.oneCell' = true) (hvb : vb ≠ g) (hvh : w.heap[vb]? = some (.cells #[x] 69 (0, 0))) (h1 : x.oneCell' = true) :
    Calls Try.prog 63 #[.slice (some ⟨g, 0, none⟩) n cap, .int .i64 i, .slice (some ⟨vb, 0, none⟩) 1 1] w fun e w' => ∃ v', e = .returned v' ∧ w'.ownsRow base 69 1 v' (n + 1) ((cur.take n).take i ++ x :: (cur.take n).drop i) ∧ w.grownBy w' (some g) := by
  have hov : ∀ lb cb, (callFunc 75 #[.slice (some ⟨vb, 0, none⟩) 1 1, .slice (some ⟨g, i + 1, none⟩) lb cb]).run Try.prog w = .ok (.value (.bool false)) w := fun lb cb => by
    rw [run_callFunc_extern Try.func75 (by kernel_rfl) (by kernel_rfl) (by kernel_rfl) (e := Extern.SlicesOverlaps.overlaps #[79, 79] #[4]) (by kernel_rfl),
      Lib.run_overlaps_apart w 79 4 69 Try.underlying79 1 (fun _ => by kernel_rfl) ⟨vb, 0, none⟩ ⟨g, i + 1, none⟩ 1 1 lb cb hvb 69 69 1 cap (by simp [World.shape?, hvh]) (by simp [World.shape?, hh, hcur]) (by omega) (by simp [World.frozen?, hvh]) (by simp [World.frozen?, hvh])]
    rfl
  have HH := Aside0.mk hh
  have HVH := Aside0.mk hvh
  have HC := Aside0.mk hcur
  have H1 := Aside0.mk hone
  have hz2 : ¬ ((i : Int) = (n : Int)) := by omega
  have hb2 : ¬ (cap = i + 1) := by omega
  have hb4 : ¬ (cap = i) := by omega
  have hsp := splice_shift_node cur n i x hi (by omega)
  have HSP := Aside0.mk hsp
  have hdl : ((cur.take n).drop i).length = n - i := by rw [List.length_drop, List.length_take]; omega
  have HDL := Aside0.mk hdl
  have HSRC : Aside0 (∀ j u, ((cur.take n).drop i)[j]? = some u → w.cell? ⟨g, i + j, none⟩ = some u) := ⟨fun j u hj => by
    rw [List.getElem?_drop, List.getElem?_take] at hj
    rw [blk_cell hh]
    split at hj
    · simpa using hj
    · cases hj⟩
  have hvne : vb ≠ g := hvb
  have hw1 : IntKind.i64.wrap ((i : Int) + 1) = (i : Int) + 1 := by rw [IntKind.wrap_i64]; omega
  have hb1 : (0 : Int) ≤ (i : Int) + 1 := by omega
  have htn : ((i : Int) + 1).toNat = i + 1 := by omega
  have hin : i ≤ n := by omega
  have hb3 : (i : Int) ≤ (n : Int) + 1 := by omega
  clear hh hvh hcur hone hsp hdl hvb
  have hD1 : Aside0 (((cur.take n).drop i).length = Nat.min (n + 1 - i) (n + 1 - (i + 1))) := ⟨by rw [HDL.out]; simp only [Nat.min_def]; split <;> omega⟩
  have hD3 : Aside0 (i + 1 + ((cur.take n).drop i).length ≤ cur.length) := ⟨by rw [HDL.out, HC.out]; omega⟩
  have hD4 : Aside0 (∀ v ∈ (cur.take n).drop i, v.oneCell' = true) := ⟨fun v hv => H1.out v (List.mem_of_mem_drop hv)⟩
  go_enter Try.func63, Try.ntmps63
  go_wp2_with (simp only [hov])
  go_region_law ((refine step_copy_g rfl (.tmp 73) (.tmp 76) 79 79 rfl 69 Try.underlying79 siz69 (some ⟨g, i + 1, none⟩) (some ⟨g, i, none⟩) (n + 1 - (i + 1)) (cap - (i + 1)) (n + 1 - i) (cap - i) (by simp [Act.eval, Act.put]) (by simp [Act.eval, Act.put]) g (i + 1) cur 69 HH.out ((cur.take n).drop i) hD1.out (fun _ => ⟨rfl, ⟨g, i, none⟩, rfl, fun j v hj => by rw [Addr.add_lit]; exact HSRC.out j v hj⟩) hD3.out hD4.out ?_; intro w1 hw1 hg1))
  have hlt : vb < w.heap.size := blk_lt HVH.out
  have HV1 : Aside0 (w1.heap[vb]? = some (.cells #[x] 69 (0, 0))) := ⟨(hg1.out.block vb hlt (fun e => hvne (by cases e; rfl))).trans HVH.out⟩
  clear hlt
  go_wp2_with (with_reducible refine wpList_copy_g rfl (.tmp 80) (.tmp 81) 79 79 rfl 69 Try.underlying79 siz69 (some ⟨g, i, none⟩) (some ⟨vb, 0, none⟩) (n + 1 - i) (cap - i) 1 1 rfl rfl g i (splice cur (i + 1) ((cur.take n).drop i)) 69 hw1.out [x] ?e1 ?e2 ?e3 ?e4 ?_)
  case e1 => simp only [Nat.min_def, List.length_singleton]; split <;> omega
  case e2 =>
    intro j v hj
    rw [blk_cell HV1.out]
    cases j with
    | zero => simpa using hj
    | succ j => simp at hj
  case e3 => 
    rw [length_splice _ _ _ (by rw [HDL.out, HC.out]; omega), HC.out, List.length_singleton]
    omega
  case e4 => intro u hu; rw [List.mem_singleton.1 hu]; exact h1
  intro w2 hw2 hg2
  go_wp2
  go_ret
  have hmx : cap ≤ maxLen := by unfold maxLen; omega
  refine ⟨_, rfl, own_of_heap hb hw2.out ?_ hmx hn HSP.out.1, grownBy_trans (grownBy_of_drew hg1.out) hg2.out⟩
  rw [HSP.out.2, HC.out]


theorem zeroCells_length_node (n : Nat) : (Builtin.zeroCells (.nilIface : Value).cells n).size = n := by
  simp [Builtin.zeroCells, Value.cells]

theorem splice_grow_node (cs : List Value) (n i G : Nat) (x : Value) (Z : List Value) (hl : cs.length = n) (hi : i < n) (hZ : i + Z.length = G) (hG : n + 1 ≤ G) :
    (splice (splice (cs.take i ++ Z) i [x]) (i + 1) (cs.drop i)).take (n + 1) = cs.take i ++ x :: cs.drop i ∧ (splice (splice (cs.take i ++ Z) i [x]) (i + 1) (cs.drop i)).length = G := by
  have e0 : (cs.take i ++ Z).length = G := by rw [List.length_append, List.length_take]; omega
  have e1 : (splice (cs.take i ++ Z) i [x]).length = G := by rw [length_splice _ _ _ (by rw [e0]; simp; omega), e0]
  have e2 : (cs.drop i).length = n - i := by rw [List.length_drop]; omega
  refine ⟨?_, by rw [length_splice _ _ _ (by rw [e1, e2]; omega), e1]⟩
  apply List.ext_getElem?
  intro j
  unfold splice
  simp only [List.getElem?_take, List.getElem?_append, List.length_take, List.length_append, List.length_drop, List.getElem?_drop, List.length_cons, List.length_nil, List.getElem?_cons]
  grind

set_option maxHeartbeats 4000000 in
set_option maxRecDepth 100000 in
/-- slices.Insert where there is no room. -/
theorem insert_grow_node (base b n c i : Nat) (vb : Nat) (cs : List Value) (x : Value) (w : World) (hbase : base ≤ w.heap.size) (hi : i < n) (hnc : n ≤ c) (hroom : c < n + 1) (hbig : n ≤ 8589934592) (hcl : cs.length = n)
    (hcs : ∀ j v, cs[j]? = some v → w.cell? ⟨b, j, none⟩ = some v) (hx : w.cell? ⟨vb, 0, none⟩ = some x) (h1c : ∀ v ∈ cs, v.oneCell' = true) (h1 : x.oneCell' = true) :
    Calls Try.prog 63 #[.slice (some ⟨b, 0, none⟩) n c, .int .i64 i, .slice (some ⟨vb, 0, none⟩) 1 1] w fun e w' => ∃ v', e = .returned v' ∧ w'.ownsRow base 69 1 v' (n + 1) (cs.take i ++ x :: cs.drop i) ∧ w.grownBy w' none := by
  obtain ⟨i0, hi0, hz0, hzs, hzb⟩ := info_parts info69s
  have hbw : b < w.heap.size := World.block_lt_of_cell? w ⟨b, 0, none⟩ (hcs 0 _ (List.getElem?_eq_getElem (by omega)))
  have hvw : vb < w.heap.size := World.block_lt_of_cell? w ⟨vb, 0, none⟩ hx
  have hkk : (n : Int) + 1 - (i : Int) = ((n + 1 - i : Nat) : Int) := by omega
  have hik : i + (n + 1 - i) = n + 1 := by omega
  have hold : (Builtin.firstCells i0.size i (.slice (some ⟨b, 0, none⟩) i c)).run Try.prog w.drew = .ok (cs.take i).toArray w.drew := by
    rw [hzs]
    exact run_firstCells_some w.drew 1 i ⟨b, 0, none⟩ i c (cs.take i) (by rw [List.length_take]; omega) (fun j v hj => by
      rw [Addr.add_lit, Nat.zero_add]
      rw [List.getElem?_take] at hj
      split at hj
      · exact hcs j v hj
      · cases hj)
  have hrz : ∀ ty, (Builtin.append_ #[79, 3] ty #[.slice (some ⟨b, 0, none⟩) i c, .int .i64 ((n : Int) + 1 - (i : Int))]).run Try.prog w =
      .ok (.slice (some ⟨w.heap.size, 0, none⟩) (n + 1) (grownCap w (n + 1) c 69)) (w.drew.alloc (.cells ((cs.take i).toArray ++ Builtin.zeroCells (.nilIface : Value).cells (n + 1 - i) ++ Builtin.zeroCells (.nilIface : Value).cells (grownCap w (n + 1) c 69 - (n + 1))) 69)) := fun ty => by
    have h := Lib.run_append_grow_zeros (P := Try.prog) w 79 3 ty 69 i0 _ .i64 .i64 Try.underlying79 Try.underlying3 hi0 hz0 (some ⟨b, 0, none⟩) i c (cs.take i) hold (n + 1 - i) (by omega) (by omega) (by omega) (by omega) (by rw [hzb]; omega) (by rw [hzb, hik]; exact growslice_fits hroom (by omega))
    rw [hik] at h
    rw [hkk]
    exact h
  have hGn : n + 1 ≤ grownCap w (n + 1) c 69 := grownCap_ge w _ _ _
  have hG63 : grownCap w (n + 1) c 69 ≤ maxLen := grownCap_le_maxLen w (n + 1) c 69 (by unfold maxLen; omega)
  generalize grownCap w (n + 1) c 69 = G at *
  obtain ⟨ZZ, hZZ⟩ : ∃ ZZ : List Value, ZZ = (Builtin.zeroCells (.nilIface : Value).cells (n + 1 - i) ++ Builtin.zeroCells (.nilIface : Value).cells (G - (n + 1))).toList := ⟨_, rfl⟩
  have hZl : i + ZZ.length = G := by rw [hZZ, Array.length_toList, Array.size_append, zeroCells_length_node, zeroCells_length_node]; omega
  have hrow : (cs.take i).toArray ++ Builtin.zeroCells (.nilIface : Value).cells (n + 1 - i) ++ Builtin.zeroCells (.nilIface : Value).cells (G - (n + 1)) = (cs.take i ++ ZZ).toArray := by
    rw [hZZ]; apply Array.ext'; simp
  simp only [hrow] at hrz
  have hsp := splice_grow_node cs n i G x ZZ hcl hi hZl hGn
  have hWl : (cs.take i ++ ZZ).length = G := by rw [List.length_append, List.length_take]; omega
  generalize hL : cs.take i ++ ZZ = ROW at *
  have hW : (w.drew.alloc (.cells ROW.toArray 69)).heap[w.heap.size]? = some (.cells ROW.toArray 69 (0, 0)) := heap_alloc_new w.drew _
  have hWg : w.grownBy (w.drew.alloc (.cells ROW.toArray 69)) none := grownBy_of_drew (World.grownBy_alloc w.drew _ _)
  have hWx : (w.drew.alloc (.cells ROW.toArray 69)).cell? ⟨vb, 0, none⟩ = some x := hWg.cell hx (by simp)
  have hWc : ∀ j v, cs[j]? = some v → (w.drew.alloc (.cells ROW.toArray 69)).cell? ⟨b, j, none⟩ = some v := fun j v hj => hWg.cell (hcs j v hj) (by simp)
  have hsz : (w.drew.alloc (.cells ROW.toArray 69)).heap.size = w.heap.size + 1 := by simp
  generalize w.drew.alloc (.cells ROW.toArray 69) = W1 at *
  have hGm : G ≤ 9223372036854775807 := by unfold maxLen at hG63; omega
  have HW := Aside0.mk hW
  have HWg := Aside0.mk hWg
  have HWx := Aside0.mk hWx
  have HWc := Aside0.mk hWc
  have HSP := Aside0.mk hsp
  have HWl := Aside0.mk hWl
  have HCL := Aside0.mk hcl
  have HSZ := Aside0.mk hsz
  have hz2 : ¬ ((i : Int) = (n : Int)) := by omega
  have hz3 : (c : Int) < (n : Int) + 1 := by omega
  have hGi : ¬ (G = i) := by omega
  have hGim : ¬ (G = i + 1) := by omega
  have hci : ¬ (c = i) := by omega
  have hw1 : IntKind.i64.wrap ((i : Int) + 1) = (i : Int) + 1 := by rw [IntKind.wrap_i64]; omega
  have hb1 : (0 : Int) ≤ (i : Int) + 1 := by omega
  have htn : ((i : Int) + 1).toNat = i + 1 := by omega
  have hin : i ≤ n := by omega
  have hrz' := Aside0.mk hrz
  clear hkk hik hold hcs hx hWx hWc hW hWg hsp hWl hL hrow hZZ hZl hcl hsz hrz
  go_enter Try.func63, Try.ntmps63
  have HDL : Aside0 ((cs.drop i).length = n - i) := ⟨by rw [List.length_drop, HCL.out]⟩
  have hD1 : Aside0 ((cs.drop i).length = Nat.min (n - i) (n + 1 - (i + 1))) := ⟨by rw [HDL.out]; simp only [Nat.min_def]; split <;> omega⟩
  have hD4 : Aside0 (∀ v ∈ cs.drop i, v.oneCell' = true) := ⟨fun v hv => h1c v (List.mem_of_mem_drop hv)⟩
  have hL1 : Aside0 ((splice ROW i [x]).length = G) := ⟨by rw [length_splice _ _ _ (by rw [HWl.out]; simp; omega), HWl.out]⟩
  have hD3 : Aside0 (i + 1 + (cs.drop i).length ≤ (splice ROW i [x]).length) := ⟨by rw [hL1.out, HDL.out]; omega⟩
  clear h1c
  go_wp2_with (first | (at_builtin; refine Lib.wpList_append_run _ rfl (.tmp 34) (.tmp 39) 79 3 rfl (.slice (some ⟨b, 0, none⟩) i c) (.int .i64 ((n : Int) + 1 - (i : Int))) rfl rfl _ _ (hrz'.out _) ?_) | (with_reducible refine wpList_copy_g rfl (.tmp 43) (.tmp 44) 79 79 rfl 69 Try.underlying79 siz69 (some ⟨w.heap.size, i, none⟩) (some ⟨vb, 0, none⟩) (n + 1 - i) (G - i) 1 1 rfl rfl w.heap.size i ROW 69 HW.out [x] ?e1 ?e2 ?e3 ?e4 ?_))
  case e1 => simp only [Nat.min_def, List.length_singleton]; split <;> omega
  case e2 =>
    intro j v hj
    cases j with
    | zero =>
      have : x = v := by simpa using hj
      rw [← this]; exact HWx.out
    | succ j => simp at hj
  case e3 => rw [HWl.out, List.length_singleton]; omega
  case e4 => intro u hu; rw [List.mem_singleton.1 hu]; exact h1
  intro w2 hw2 hg2
  have HWc2 : Aside0 (∀ j v, (cs.drop i)[j]? = some v → w2.cell? ⟨b, i + j, none⟩ = some v) := ⟨fun j v hj => hg2.out.cell (HWc.out (i + j) v (by rwa [List.getElem?_drop] at hj)) (fun e => by injection e with e; exact absurd e (Nat.ne_of_lt hbw))⟩
  go_wp2
  go_region_law ((refine step_copy_g rfl (.tmp 50) (.tmp 53) 79 79 rfl 69 Try.underlying79 siz69 (some ⟨w.heap.size, i + 1, none⟩) (some ⟨b, i, none⟩) (n + 1 - (i + 1)) (G - (i + 1)) (n - i) (c - i) (by simp [Act.eval, Act.put]) (by simp [Act.eval, Act.put]) w.heap.size (i + 1) (splice ROW i [x]) 69 hw2.out (cs.drop i) hD1.out (fun _ => ⟨rfl, ⟨b, i, none⟩, rfl, fun j v hj => by rw [Addr.add_lit]; exact HWc2.out j v hj⟩) hD3.out hD4.out ?_; intro w3 hw3 hg3))
  go_wp2
  go_ret
  refine ⟨_, rfl, own_of_heap hbase hw3.out ?_ ?_ hGn HSP.out.1, ?_⟩
  · rw [HSP.out.2]
  · unfold maxLen; exact hGm
  · have hg := grownBy_trans hg2.out (grownBy_of_drew hg3.out)
    refine ⟨hg.os.trans HWg.out.os, hg.tape.trans HWg.out.tape, hg.output.trans HWg.out.output, Nat.le_trans HWg.out.size hg.size, fun k hk _ => ?_⟩
    exact (hg.block k (Nat.lt_of_lt_of_le hk HWg.out.size) (fun e => by injection e; omega)).trans (HWg.out.block k hk (by simp))

end Go.Proofs.Ytjabcdfbncglnaa
namespace Go.Proofs.Ytjabcdfbncglnaa
open Go.RowKit Go.Proofs.YtjabcdfbncglnaaW.PrintWords Go.Proofs.YtjabcdfbncglnaaW.PrintLast Go.Proofs.YtjabcdfbncglnaaW.PrintMore
set_option linter.unusedVariables false
set_option linter.unusedSimpArgs false

/-- slices.Insert of one element into a row of one's own. -/
theorem insert_node (base n i : Nat) (v : Value) (vb : Nat) (cs : List Value) (x : Value) (w : World) (hown : w.ownsRow base 69 1 v n cs) (hbase : base ≤ w.heap.size) (hi : i ≤ n) (hbig : n ≤ 8589934592)
    (hone : ∀ u ∈ cs, u.oneCell' = true) (hvh : w.heap[vb]? = some (.cells #[x] 69 (0, 0))) (hne : v.ownBlock ≠ some vb) (h1 : x.oneCell' = true) :
    Calls Try.prog 63 #[v, .int .i64 i, .slice (some ⟨vb, 0, none⟩) 1 1] w fun e w' => ∃ v', e = .returned v' ∧ w'.ownsRow base 69 1 v' (n + 1) (cs.take i ++ x :: cs.drop i) ∧ w.grownBy w' v.ownBlock := by
  have hx : w.cell? ⟨vb, 0, none⟩ = some x := blk_cell hvh 0
  have hcl : cs.length = n := by rw [hown.1, Nat.mul_one]
  rcases Nat.lt_or_ge i n with h | h
  · obtain ⟨g, cap, cur, rfl, hb, hh, hnc, hcm, hcl2, htk⟩ := row_parts_node hown (by omega)
    have hvb : vb ≠ g := fun e => hne (by rw [e]; rfl)
    unfold maxLen at hcm
    subst htk
    rcases Nat.lt_or_ge cap (n + 1) with hr | hr
    · refine (insert_grow_node base g n cap i vb (cur.take n) x w hbase h hnc hr hbig hcl ?_ hx hone h1).mono ?_
      · intro j u hj
        rw [blk_cell hh]
        rw [List.getElem?_take] at hj
        split at hj
        · simpa using hj
        · cases hj
      · rintro e w' ⟨v', he, ho, hg⟩
        exact ⟨v', he, ho, grownBy_none hg _⟩
    · exact insert_room_node base g n cap i vb cur x w hb hh hr hcm hbig hcl2 h hone hvb hvh h1
  · obtain rfl : i = n := by omega
    refine (insert_end_node base i v vb cs x w hown hbase hbig hx h1).mono ?_
    rintro e w' ⟨v', he, ho, hg⟩
    refine ⟨v', he, ?_, hg⟩
    rw [List.take_of_length_le (by omega), List.drop_of_length_le (by omega)]
    exact ho

set_option maxHeartbeats 2000000 in
set_option maxRecDepth 100000 in
/-- a list with another element. -/
theorem changed_node (A : Option Addr) (n c i : Nat) (vs : List Value) (ty bt : Nat) (w : World) (hA : 0 < n → ∃ ad, A = some ad ∧ ∀ j u, vs[j]? = some u → w.cell? (ad.add j) = some u) (hl : vs.length = n) (hbig : n ≤ 8589934592) (h1 : ∀ u ∈ vs, u.oneCell' = true) (hi : i < n) :
    Calls Try.prog 61 #[.slice A n c, .int .i64 i, (.iface ty (.pointer (some ⟨bt, 0, none⟩)))] w fun e w' => ∃ v', e = .returned v' ∧ w'.ownsRow w.heap.size 69 1 v' n (vs.set i (.iface ty (.pointer (some ⟨bt, 0, none⟩)))) ∧ Below w.heap.size w w' := by
  have hcl := Aside0.mk (clone_node A n c vs w hA hl hbig h1)
  have HL := Aside0.mk hl
  clear hA h1 hl
  go_enter Try.func61, Try.ntmps61
  go_wp2_with fail
  refine hcl.out.mono ?_
  rintro e w' ⟨v', rfl, ho, hb⟩
  obtain ⟨g, cap, cur, rfl, hgb, hh, hnc, hcm, hcl2, htk⟩ := row_parts_node ho (by omega)
  have hcap : cap ≤ 9223372036854775807 := by unfold maxLen at hcm; omega
  have hcell : w'.cell? ⟨g, i, none⟩ = some (vs[i]'(by rw [HL.out]; exact hi)) := by
    rw [ho.cellAt i (by omega), List.getElem?_eq_getElem]
  have hfz : w'.frozen? ⟨g, i, none⟩ = false := ho.frozenAt i
  have HO := Aside0.mk (ho.stored i (.iface ty (.pointer (some ⟨bt, 0, none⟩))))
  have HB := Aside0.mk (hb.setCell (p := ⟨g, i, none⟩) hgb (.iface ty (.pointer (some ⟨bt, 0, none⟩))))
  generalize vs[i]'(by rw [HL.out]; exact hi) = old at *
  clear ho hb hh hcl2 htk hcm
  go_wp2
  go_ret
  exact ⟨.slice (some ⟨g, 0, none⟩) n cap, rfl, HO.out.1, HB.out⟩

end Go.Proofs.Ytjabcdfbncglnaa
namespace Go.Proofs.Ytjabcdfbncglnaa
open Go.RowKit Go.Proofs.YtjabcdfbncglnaaW.PrintWords Go.Proofs.YtjabcdfbncglnaaW.PrintLast Go.Proofs.YtjabcdfbncglnaaW.PrintMore
open PTreeRanks (S59 k59 z59)
set_option linter.unusedVariables false
set_option linter.unusedSimpArgs false

/-- Elements and their values, place by place. -/
def Elems {α : Type} (R : α → Value → Prop) (cs : List α) (vs : List Value) : Prop := vs.length = cs.length ∧ ∀ (j : Nat) (t : α) (v : Value), cs[j]? = some t → vs[j]? = some v → R t v

section
variable {α : Type} {R : α → Value → Prop} {cs cs' : List α} {vs vs' : List Value}
theorem Elems.nil : Elems R [] [] := ⟨rfl, fun j t v h => by simp at h⟩
theorem Elems.imp {R' : α → Value → Prop} (h : Elems R cs vs) (hR : ∀ t v, R t v → R' t v) : Elems R' cs vs := ⟨h.1, fun j t v a b => hR _ _ (h.2 j t v a b)⟩
theorem Elems.append (h : Elems R cs vs) (h' : Elems R cs' vs') : Elems R (cs ++ cs') (vs ++ vs') := by
  refine ⟨by rw [List.length_append, List.length_append, h.1, h'.1], fun j t v a b => ?_⟩
  rw [List.getElem?_append] at a b
  rw [h.1] at b
  split at a
  · rw [if_pos ‹_›] at b; exact h.2 j t v a b
  · rw [if_neg ‹_›] at b; exact h'.2 _ t v a b
theorem Elems.take (h : Elems R cs vs) (n : Nat) : Elems R (cs.take n) (vs.take n) := by
  refine ⟨by rw [List.length_take, List.length_take, h.1], fun j t v a b => ?_⟩
  rw [List.getElem?_take] at a b
  split at a
  · rw [if_pos ‹_›] at b; exact h.2 j t v a b
  · cases a
theorem Elems.drop (h : Elems R cs vs) (n : Nat) : Elems R (cs.drop n) (vs.drop n) := by
  refine ⟨by rw [List.length_drop, List.length_drop, h.1], fun j t v a b => ?_⟩
  rw [List.getElem?_drop] at a b
  exact h.2 _ t v a b
theorem Elems.one {t : α} {v : Value} (h : R t v) : Elems R [t] [v] := ⟨rfl, fun j t' v' a b => by
  cases j with
  | zero => simp at a b; subst a; subst b; exact h
  | succ j => simp at a⟩
theorem Elems.set (h : Elems R cs vs) (i : Nat) {t : α} {v : Value} (hr : R t v) : Elems R (cs.set i t) (vs.set i v) := by
  refine ⟨by rw [List.length_set, List.length_set, h.1], fun j t' v' a b => ?_⟩
  rw [List.getElem?_set] at a b
  split at a
  · rw [if_pos ‹_›] at b
    split at a
    · rw [if_pos (by rw [h.1]; assumption)] at b
      cases a; cases b; exact hr
    · cases a
  · rw [if_neg ‹_›] at b; exact h.2 j t' v' a b
theorem Elems.ins (h : Elems R cs vs) (i : Nat) {t : α} {v : Value} (hr : R t v) : Elems R (cs.take i ++ t :: cs.drop i) (vs.take i ++ v :: vs.drop i) :=
  (h.take i).append ((Elems.one hr).append (h.drop i))
theorem Elems.get (h : Elems R cs vs) (i : Nat) (hi : i < cs.length) : ∃ v, vs[i]? = some v ∧ R cs[i] v :=
  ⟨vs[i]'(by rw [h.1]; exact hi), List.getElem?_eq_getElem _, h.2 i _ _ (List.getElem?_eq_getElem hi) (List.getElem?_eq_getElem _)⟩
theorem Elems.mem (h : Elems R cs vs) {v : Value} (hv : v ∈ vs) : ∃ t ∈ cs, R t v := by
  obtain ⟨i, hi, rfl⟩ := List.getElem_of_mem hv
  have hi' : i < cs.length := by rw [← h.1]; exact hi
  exact ⟨cs[i], List.getElem_mem hi', h.2 i _ _ (List.getElem?_eq_getElem hi') (List.getElem?_eq_getElem hi)⟩
end

theorem own_cells {w : World} {base e n : Nat} {v : Value} {xs : List Value} (h : w.ownsRow base e 1 v n xs) :
    ∃ A c, v = .slice A n c ∧ n ≤ c ∧ c ≤ 9223372036854775807 ∧ xs.length = n ∧ (0 < n → ∃ ad, A = some ad ∧ ∀ j u, xs[j]? = some u → w.cell? (ad.add j) = some u) := by
  have hl : xs.length = n := by rw [h.1, Nat.mul_one]
  rcases h.2 with ⟨rfl, rfl⟩ | ⟨g, cap, cur, rfl, hb, hh, h1, h2, h3, h4⟩
  · exact ⟨none, 0, rfl, Nat.le_refl _, by omega, hl, fun h => absurd h (by omega)⟩
  · exact ⟨_, cap, rfl, h1, by unfold maxLen at h2; exact h2, hl, fun _ => ⟨_, rfl, h.cells rfl⟩⟩

/-- A row of nobody's writing, by its values. -/
def VRow {α : Type} (R : World → (Nat → Prop) → α → Value → Prop) (e : Nat) (w : World) (ok : Nat → Prop) (v : Value) (xs : List α) : Prop :=
  (∀ k, v.ownBlock = some k → ok k) ∧ ∃ vs, w.ownsRow 0 e 1 v xs.length vs ∧ Elems (R w ok) xs vs

def RM {α : Type} (d : Kd α) (w : World) (ok : Nat → Prop) (t : α) (v : Value) : Prop := d.M w 0 ok t [v]

theorem VRow_iff {α : Type} {d : Kd α} (hd : d.sz = 1) {e : Nat} {w : World} {ok : Nat → Prop} {v : Value} {xs : List α} : VRow (RM d) e w ok v xs ↔ FRow d e w 0 ok v xs := by
  constructor
  · rintro ⟨h0, vs, ho, hl, he⟩
    refine ⟨h0, vs, by rw [hd]; exact ho, by rw [hd, Nat.mul_one]; exact hl, fun j p hj => ?_⟩
    have hj' : j < xs.length := (List.getElem?_eq_some_iff.1 hj).1
    have hv : vs[j]? = some (vs[j]'(by rw [hl]; exact hj')) := List.getElem?_eq_getElem _
    rw [hd, Nat.mul_one, List.drop_eq_getElem_cons (by rw [hl]; exact hj'), List.take_succ_cons, List.take_zero]
    exact he j p _ hj hv
  · rintro ⟨h0, vs, ho, hl, he⟩
    rw [hd] at ho hl he
    rw [Nat.mul_one] at hl
    refine ⟨h0, vs, ho, hl, fun j p v hj hv => ?_⟩
    have := he j p hj
    have hj' : j < xs.length := (List.getElem?_eq_some_iff.1 hj).1
    rw [Nat.mul_one, List.drop_eq_getElem_cons (by rw [hl]; exact hj'), List.take_succ_cons, List.take_zero] at this
    have e : vs[j]'(by rw [hl]; exact hj') = v := by
      have h2 := List.getElem?_eq_getElem (l := vs) (i := j) (by rw [hl]; exact hj')
      rw [h2] at hv
      exact Option.some.inj hv
    rw [e] at this
    exact this

theorem Elems_map {α : Type} (enc : α → Value) (R : α → Value → Prop) (hR : ∀ x, R x (enc x)) (xs : List α) : Elems R xs (xs.map enc) := by
  refine ⟨List.length_map _, fun j t v a b => ?_⟩
  rw [List.getElem?_map, a] at b
  cases b
  exact hR t

/-- Strings, whole numbers: the values are those that they must be. -/
theorem Elems_scalar {α : Type} {enc : α → Value} {h1 : ∀ x, (enc x).oneCell' = true} {w : World} {ok : Nat → Prop} {xs : List α} {vs : List Value} (h : Elems (RM (Kd.scalar enc h1) w ok) xs vs) : vs = xs.map enc := by
  apply List.ext_getElem?
  intro j
  rw [List.getElem?_map]
  cases hx : xs[j]? with
  | none =>
    rw [Option.map_none, List.getElem?_eq_none_iff, h.1]
    exact List.getElem?_eq_none_iff.1 hx
  | some x =>
    have hj : j < vs.length := by rw [h.1]; exact (List.getElem?_eq_some_iff.1 hx).1
    have h2 := h.2 j x _ hx (List.getElem?_eq_getElem hj)
    have h3 : [vs[j]] = [enc x] := h2
    rw [List.getElem?_eq_getElem hj, Option.map_some]
    simpa using h3

abbrev SRow := FRow Kd.string 9
abbrev IRow := FRow (Kd.int .i64) 2
abbrev CRow (d : Nat) := FRow (NK d) 69

theorem SRow_own {w : World} {ok : Nat → Prop} {v : Value} {ks : List ByteArray} (h : SRow w 0 ok v ks) : w.ownsRow 0 9 1 v ks.length (ks.map .string) ∧ ∀ k, v.ownBlock = some k → ok k := by
  obtain ⟨h0, vs, ho, he⟩ := (VRow_iff rfl).2 h
  rw [Elems_scalar he] at ho
  exact ⟨ho, h0⟩
theorem IRow_own {w : World} {ok : Nat → Prop} {v : Value} {ks : List Int} (h : IRow w 0 ok v ks) : w.ownsRow 0 2 1 v ks.length (ks.map (.int .i64)) ∧ ∀ k, v.ownBlock = some k → ok k := by
  obtain ⟨h0, vs, ho, he⟩ := (VRow_iff rfl).2 h
  rw [Elems_scalar he] at ho
  exact ⟨ho, h0⟩
theorem SRow_mk {w : World} {base n : Nat} {ok : Nat → Prop} {v : Value} {ks : List ByteArray} (h : w.ownsRow base 9 1 v n (ks.map .string)) (hok : ∀ k, base ≤ k → ok k) : SRow w 0 ok v ks := by
  have hn : ks.length = n := by have := h.1; rw [List.length_map, Nat.mul_one] at this; exact this
  subst hn
  exact (VRow_iff (d := Kd.string) rfl).1 ⟨fun k hk => hok k (own_base h k hk), _, own_weaken h (Nat.zero_le _), Elems_map _ (RM (Kd.string) w ok) (fun x => (rfl : [Value.string x] = [Value.string x])) _⟩
theorem IRow_mk {w : World} {base n : Nat} {ok : Nat → Prop} {v : Value} {ks : List Int} (h : w.ownsRow base 2 1 v n (ks.map (.int .i64))) (hok : ∀ k, base ≤ k → ok k) : IRow w 0 ok v ks := by
  have hn : ks.length = n := by have := h.1; rw [List.length_map, Nat.mul_one] at this; exact this
  subst hn
  exact (VRow_iff (d := Kd.int .i64) rfl).1 ⟨fun k hk => hok k (own_base h k hk), _, own_weaken h (Nat.zero_le _), Elems_map _ (RM (Kd.int .i64) w ok) (fun x => (rfl : [Value.int .i64 x] = [Value.int .i64 x])) _⟩
theorem CRow_own {d : Nat} {w : World} {ok : Nat → Prop} {v : Value} {cs : List (T d)} (h : CRow d w 0 ok v cs) : ∃ vs, w.ownsRow 0 69 1 v cs.length vs ∧ Elems (RM (NK d) w ok) cs vs ∧ ∀ k, v.ownBlock = some k → ok k := by
  obtain ⟨h0, vs, ho, he⟩ := (VRow_iff (NK_sz d)).2 h
  exact ⟨vs, ho, he, h0⟩
theorem CRow_mk {d : Nat} {w : World} {base n : Nat} {ok : Nat → Prop} {v : Value} {cs : List (T d)} {vs : List Value} (h : w.ownsRow base 69 1 v n vs) (he : Elems (RM (NK d) w ok) cs vs) (hok : ∀ k, base ≤ k → ok k) : CRow d w 0 ok v cs := by
  have hn : cs.length = n := by have := h.1; rw [Nat.mul_one, he.1] at this; exact this
  subst hn
  exact (VRow_iff (NK_sz d)).1 ⟨fun k hk => hok k (own_base h k hk), _, own_weaken h (Nat.zero_le _), he⟩

theorem M_below' {α : Type} {d : Kd α} {w w1 : World} {base : Nat} {ok : Nat → Prop} {x : α} {cs : List Value} (h : d.M w base ok x cs) (hb : Below w.heap.size w w1) : d.M w1 base ok x cs :=
  Kd.M_step h (fun k _ hk => hb.block k hk)
theorem FRow_below {α : Type} {d : Kd α} {e : Nat} {w w1 : World} {base : Nat} {ok : Nat → Prop} {v : Value} {xs : List α} (h : FRow d e w base ok v xs) (hb : Below w.heap.size w w1) : FRow d e w1 base ok v xs :=
  FRow_step h (fun k _ hk => hb.block k hk)

theorem leaf_M {w : World} {ok : Nat → Prop} {l : List S59} {v : Value} : (NK 0).M w 0 ok l [v] ↔ ∃ b kv vv, v = .iface 82 (.pointer (some ⟨b, 0, none⟩)) ∧ ok b ∧ w.heap[b]? = some (.cells #[kv, vv] 85 (0, 0)) ∧
    SRow w 0 ok kv (l.map S59.f0) ∧ IRow w 0 ok vv (l.map S59.f1) := by
  constructor
  · rintro ⟨b, ccs, e, _, h2, h3, ⟨c0, c1, rfl, ⟨kv, rfl, hk⟩, ⟨vv, rfl, hv⟩⟩⟩
    simp only [List.cons.injEq, and_true] at e
    exact ⟨b, kv, vv, e, h2, h3, hk, hv⟩
  · rintro ⟨b, kv, vv, rfl, h2, h3, hk, hv⟩
    exact ⟨b, [kv, vv], rfl, Nat.zero_le _, h2, h3, [kv], [vv], rfl, ⟨kv, rfl, hk⟩, ⟨vv, rfl, hv⟩⟩

theorem inner_M {w : World} {ok : Nat → Prop} {d : Nat} {ks : List ByteArray} {cs : List (T d)} {v : Value} : (NK (d + 1)).M w 0 ok ((ks, cs) : List ByteArray × List (T d)) [v] ↔
    ∃ b kv cv, v = .iface 78 (.pointer (some ⟨b, 0, none⟩)) ∧ ok b ∧ w.heap[b]? = some (.cells #[kv, cv, .int .i64 (sizes cs : Nat)] 81 (0, 0)) ∧ SRow w 0 ok kv ks ∧ CRow d w 0 ok cv cs := by
  constructor
  · rintro ⟨b, ccs, e, _, h2, h3, ⟨c0, c1, rfl, ⟨kv, rfl, hk⟩, ⟨c2, c3, rfl, ⟨cv, rfl, hc⟩, e3⟩⟩⟩
    simp only [List.cons.injEq, and_true] at e
    replace e3 : c3 = [.int .i64 ((cs.map (size d)).sum : Nat)] := e3
    subst e3
    exact ⟨b, kv, cv, e, h2, h3, hk, hc⟩
  · rintro ⟨b, kv, cv, rfl, h2, h3, hk, hc⟩
    exact ⟨b, [kv, cv, _], rfl, Nat.zero_le _, h2, h3, [kv], [cv, .int .i64 (sizes cs : Nat)], rfl, ⟨kv, rfl, hk⟩, ⟨[cv], _, rfl, ⟨cv, rfl, hc⟩, rfl⟩⟩

theorem NK_one {d : Nat} {t : T d} {v : Value} {w : World} (h : (NK d).K w t [v]) : v.oneCell' = true := (NK d).K_one h v (List.mem_singleton_self _)

end Go.Proofs.Ytjabcdfbncglnaa
namespace Go.Proofs.Ytjabcdfbncglnaa
open Go.RowKit Go.Proofs.YtjabcdfbncglnaaW.PrintWords Go.Proofs.YtjabcdfbncglnaaW.PrintLast Go.Proofs.YtjabcdfbncglnaaW.PrintMore
open PTreeRanks (S59 k59 z59)
set_option linter.unusedVariables false
set_option linter.unusedSimpArgs false

/-- What a maker of an inner node answers. -/
def InnerPost (d : Nat) (ks : List ByteArray) (cs : List (T d)) (ok : Nat → Prop) (w : World) (e : Ending) (w' : World) : Prop :=
  ∃ b, e = .returned (.pointer (some ⟨b, 0, none⟩)) ∧ w.heap.size ≤ b ∧ (NK (d + 1)).M w' 0 ok ((ks, cs) : List ByteArray × List (T d)) [.iface 78 (.pointer (some ⟨b, 0, none⟩))] ∧ Below w.heap.size w w'

set_option maxRecDepth 100000 in
set_option maxHeartbeats 4000000 in
theorem newInner_calls {d : Nat} {ks : List ByteArray} {cs : List (T d)} {kv cv : Value} {w : World} {ok : Nat → Prop} (hk : SRow w 0 ok kv ks) (hc : CRow d w 0 ok cv cs) (hok : ∀ k, w.heap.size ≤ k → ok k)
    (hsz : sizes cs ≤ 1099511627776) :
    Calls Try.prog 49 #[kv, cv] w (InnerPost d ks cs ok w) := by
  obtain ⟨A, c, rfl, hkc, hkC⟩ := FRow_reads hk
  obtain ⟨A', c', rfl, hcc, hcC⟩ := FRow_reads hc
  have HK := Aside0.mk hk
  have HC := Aside0.mk hc
  have HCC := Aside0.mk hcC
  have hcl := hcC.2.1
  have m1 := meth_leaf
  have m2 := meth_inner
  clear hk hc hkC hcC
  go_enter Try.func49, Try.ntmps49
  go_wp2
  go_loopw [14] (fun v14 w' => ∃ j : Nat, j ≤ cs.length ∧ v14 = .int .i64 j ∧ Aside0 (w'.heap[w.heap.size]? = some (.cells #[.slice A ks.length c, .slice A' cs.length c', .int .i64 (sizes (cs.take j) : Nat)] 81 (0, 0))) ∧ Aside0 (Below w.heap.size w w')) (fun v14 _ => cs.length - (intOf v14).toNat)
  case atStart => exact ⟨0, Nat.zero_le _, rfl, ⟨heap_alloc_new w _⟩, ⟨(Below.refl _ w).alloc (Nat.le_refl _) _⟩⟩
  case round =>
    obtain ⟨j, hj, rfl, HH, HB⟩ := hrel
    have x2 : wr.cell? ⟨w.heap.size, 2, none⟩ = some (.int .i64 (sizes (cs.take j) : Nat)) := (blk_cell HH.out 2).trans rfl
    have f2 : wr.frozen? ⟨w.heap.size, 2, none⟩ = false := blk_frozen HH.out 2
    by_cases hjl : j < cs.length
    · obtain ⟨ad, vj, e, hcell, hKj⟩ := C_kid (Kd.C_below HCC.out HB.out) j hjl
      cases e
      have hs1 := sizes_take_le cs j hjl
      have hs2 := sizes_take cs j hjl
      have hs3 : size d cs[j] ≤ 1099511627776 := by omega
      have hs4 : sizes (cs.take j) + size d cs[j] ≤ 1099511627776 := by omega
      have HN : Aside0 (((sizes (cs.take (j + 1)) : Nat) : Int) = ((sizes (cs.take j) : Nat) : Int) + ((size d cs[j] : Nat) : Int)) := ⟨by rw [hs2]; omega⟩
      clear hs1 hs2
      generalize cs[j] = tj at *
      have hw1 : IntKind.i64.wrap (((sizes (cs.take j) : Nat) : Int) + ((size d tj : Nat) : Int)) = ((sizes (cs.take j) : Nat) : Int) + ((size d tj : Nat) : Int) := by rw [IntKind.wrap_i64]; omega
      rcases count_any (K_drewN hKj 1) with ⟨bt, rfl, hcnt⟩ | ⟨bt, rfl, hcnt⟩
      all_goals
        have HCN := Aside0.mk hcnt
        clear hcnt hKj
        go_wp2_with fail
        go_region_with ((refine HCN.out.mono ?_; rintro e w' ⟨rfl, rfl⟩))
        all_goals
          go_wp2
          go_roundw
          case rel =>
            refine ⟨j + 1, by omega, by go_num, ⟨?_⟩, ⟨?_⟩⟩
            · rw [HN.out]
              exact (blk_set (w := wr) HH.out 2 _).trans rfl
            · exact (pw_below_drewN HB.out 1).setCell (p := ⟨w.heap.size, 2, none⟩) (Nat.le_refl _) _
          case measure => simp [intOf]; omega
    · have hj : j = cs.length := by omega
      subst hj
      have HM : Aside0 ((NK (d + 1)).M wr 0 ok ((ks, cs) : List ByteArray × List (T d)) [.iface 78 (.pointer (some ⟨w.heap.size, 0, none⟩))]) := ⟨inner_M.2 ⟨w.heap.size, _, _, rfl, hok _ (Nat.le_refl _), by
        have := HH.out
        rw [List.take_length] at this
        exact this, FRow_below HK.out HB.out, FRow_below HC.out HB.out⟩⟩
      clear HK HC HH
      go_wp2
      go_ret
      exact ⟨w.heap.size, rfl, Nat.le_refl _, HM.out, HB.out⟩

end Go.Proofs.Ytjabcdfbncglnaa
namespace Go.Proofs.Ytjabcdfbncglnaa
open Go.RowKit Go.Proofs.YtjabcdfbncglnaaW.PrintWords Go.Proofs.YtjabcdfbncglnaaW.PrintLast Go.Proofs.YtjabcdfbncglnaaW.PrintMore
open PTreeRanks (S59 k59 z59)
set_option linter.unusedVariables false
set_option linter.unusedSimpArgs false

/-- A node, and perhaps a key and a second node: what a put answers below a node. -/
def SplitPost (d : Nat) (s : T d × Option (ByteArray × T d)) (ok : Nat → Prop) (w : World) (e : Ending) (w' : World) : Prop :=
  Below w.heap.size w w' ∧ match s.2 with
    | none => ∃ lv, e = .returned (.agg #[lv, .string ⟨#[]⟩, .nilIface]) ∧ (NK d).M w' 0 ok s.1 [lv]
    | some (mid, r) => ∃ lv rv, e = .returned (.agg #[lv, .string mid, rv]) ∧ (NK d).M w' 0 ok s.1 [lv] ∧ (NK d).M w' 0 ok r [rv]

def halveLeafT (order : Nat) (l : List S59) : List S59 × Option (ByteArray × List S59) :=
  if l.length < order then (l, none) else (l.take (l.length / 2), some ((l.getD (l.length / 2) z59).f0, l.drop (l.length / 2)))

set_option maxRecDepth 100000 in
set_option maxHeartbeats 4000000 in
theorem halveLeaf_keep {l : List S59} {w : World} {ok : Nat → Prop} {bt b order : Nat} (h0 : w.cell? ⟨bt, 0, none⟩ = some (.int .i64 order)) (hM : (NK 0).M w 0 ok l [.iface 82 (.pointer (some ⟨b, 0, none⟩))]) (hl : l.length < order) :
    Calls Try.prog 58 #[.pointer (some ⟨bt, 0, none⟩), .pointer (some ⟨b, 0, none⟩)] w (SplitPost 0 (l, none) ok w) := by
  obtain ⟨b', kv, vv, e, hb, hh, hk, hv⟩ := leaf_M.1 hM
  cases e
  obtain ⟨A, c, rfl, hkc, hkC⟩ := FRow_reads hk
  rw [List.length_map] at hkc hh
  have x0 : w.cell? ⟨b, 0, none⟩ = some (.slice A l.length c) := (blk_cell hh 0).trans rfl
  have hlm := hkC.2.1
  rw [List.length_map] at hlm
  have HM := Aside0.mk hM
  have hdec : decide (l.length < order) = true := decide_eq_true hl
  have hlt1 : bt < w.heap.size := World.block_lt_of_cell? w ⟨bt, 0, none⟩ h0
  have hlt2 : b < w.heap.size := blk_lt hh
  clear hM hk hv hh hkC
  go_enter Try.func58, Try.ntmps58
  go_wp2
  go_quiet (fail)
  go_wp2
  refine bodyPost_ret (v := .agg #[.iface 82 (.pointer (some ⟨b, 0, none⟩)), .string ⟨#[]⟩, .nilIface]) (by simp [results, Try.results58, go_sem]) rfl ?_
  refine ⟨?_, _, rfl, M_below' HM.out ?_⟩ <;>
  exact Below.setCell (p := ⟨w.heap.size, 2, none⟩) (Below.setCell (p := ⟨w.heap.size, 1, none⟩) (Below.setCell (p := ⟨w.heap.size, 0, none⟩) (pw_below_drewN ((Below.refl _ w).alloc (Nat.le_refl _) _) nq) (Nat.le_refl _) _) (Nat.le_refl _) _) (Nat.le_refl _) _

/-- The box of a result that is a split, not yet written. -/
def ResBox (r : Nat) (W : World) : Prop := W.heap[r]? = some (.cells #[.nilIface, .string ⟨#[]⟩, .nilIface] 107 (0, 0))
theorem ResBox.cells {r : Nat} {W : World} (h : ResBox r W) : (W.cell? ⟨r, 0, none⟩ = some .nilIface ∧ W.cell? ⟨r, 1, none⟩ = some (.string ⟨#[]⟩) ∧ W.cell? ⟨r, 2, none⟩ = some .nilIface) ∧ W.frozen? ⟨r, 0, none⟩ = false ∧ W.frozen? ⟨r, 1, none⟩ = false ∧ W.frozen? ⟨r, 2, none⟩ = false :=
  ⟨⟨(blk_cell h 0).trans rfl, (blk_cell h 1).trans rfl, (blk_cell h 2).trans rfl⟩, blk_frozen h 0, blk_frozen h 1, blk_frozen h 2⟩

theorem below_go {W0 w1 w2 : World} (k : Below w1.heap.size w1 w2) (h : Below W0.heap.size W0 w1) : Below W0.heap.size W0 w2 := h.trans (k.mono h.size)
theorem gb_below {W0 w1 w2 : World} {u : Option Nat} (k : Below w1.heap.size w1 w2) (h : W0.grownBy w1 u) : W0.grownBy w2 u := grownBy_trans h ⟨k.os, k.tape, k.output, k.size, fun i hi _ => k.block i hi⟩
theorem gb_alloc {W0 w1 : World} {u : Option Nat} (h : W0.grownBy w1 u) (o : Obj) : W0.grownBy (w1.alloc o) u := grownBy_trans h (World.grownBy_alloc w1 o u)
theorem gb_set {W0 w1 : World} {r : Nat} (h : W0.grownBy w1 (some r)) (j : Nat) (v : Value) : W0.grownBy (w1.setCell ⟨r, j, none⟩ v) (some r) :=
  grownBy_trans h ⟨rfl, rfl, rfl, by simp [World.setCell], fun k _ hne => Below.heap_setCell _ _ _ _ (fun e => hne (by rw [e]))⟩
theorem gb_old {w W0 W : World} (h : Below w.heap.size w W0) (k : W0.grownBy W (some w.heap.size)) : Below w.heap.size w W :=
  h.trans ⟨k.os, k.tape, k.output, k.size, fun i hi => k.block i (Nat.lt_of_lt_of_le hi h.size) (fun e => by injection e with e; omega)⟩
theorem below_mk {W0 w1 : World} (h : Below W0.heap.size W0 w1) (o : Obj) : Below W0.heap.size W0 (w1.alloc o) := h.alloc h.size o

/-- A part of a row of one-cell values, its cells in whatever later world. -/
theorem cells_later {w W : World} {ad : Addr} {xs : List Value} (h : ∀ (j : Nat) (u : Value), xs[j]? = some u → w.cell? (ad.add j) = some u) (hb : Below w.heap.size w W) : ∀ (j : Nat) (u : Value), xs[j]? = some u → W.cell? (ad.add j) = some u :=
  fun j u hj => pw_cell_below hb (h j u hj)
theorem cells_drop {w : World} {ad : Addr} {xs : List Value} (h : ∀ (j : Nat) (u : Value), xs[j]? = some u → w.cell? (ad.add j) = some u) (i : Nat) : ∀ (j : Nat) (u : Value), (xs.drop i)[j]? = some u → w.cell? ((ad.add i).add j) = some u :=
  fun j u hj => by rw [Addr.add_add]; rw [List.getElem?_drop] at hj; exact h _ u hj
theorem cells_take {w : World} {ad : Addr} {xs : List Value} (h : ∀ (j : Nat) (u : Value), xs[j]? = some u → w.cell? (ad.add j) = some u) (i : Nat) : ∀ (j : Nat) (u : Value), (xs.take i)[j]? = some u → w.cell? (ad.add j) = some u :=
  fun j u hj => by
    rw [List.getElem?_take] at hj
    split at hj
    · exact h _ u hj
    · cases hj

theorem leaf_fin {W : World} {ok : Nat → Prop} {B b b1 b2 n1 n2 : Nat} {kv vv : Value} {l : List S59} (hok : ∀ k, B ≤ k → ok k) (hb : B ≤ b) (hh : W.heap[b]? = some (.cells #[kv, vv] 85 (0, 0)))
    (hk : W.ownsRow b1 9 1 kv n1 ((l.map S59.f0).map .string)) (hv : W.ownsRow b2 2 1 vv n2 ((l.map S59.f1).map (.int .i64))) (h1 : B ≤ b1) (h2 : B ≤ b2) : (NK 0).M W 0 ok l [.iface 82 (.pointer (some ⟨b, 0, none⟩))] :=
  leaf_M.2 ⟨b, kv, vv, rfl, hok _ hb, hh, SRow_mk hk (fun k h => hok k (Nat.le_trans h1 h)), IRow_mk hv (fun k h => hok k (Nat.le_trans h2 h))⟩

theorem own_kept {w w1 : World} {base e n r : Nat} {v : Value} {xs : List Value} (h : w.ownsRow base e 1 v n xs) (hg : w.grownBy w1 (some r)) (hr : r < base) : w1.ownsRow base e 1 v n xs := by
  refine h.kept hg ?_
  cases hv : v.ownBlock with
  | none => exact .inl rfl
  | some k =>
    right
    intro e
    injection e with e
    have := own_base h k hv
    omega

set_option maxRecDepth 100000 in
set_option maxHeartbeats 4000000 in
theorem halveLeaf_split {l : List S59} {w : World} {ok : Nat → Prop} {bt b order : Nat} (h0 : w.cell? ⟨bt, 0, none⟩ = some (.int .i64 order)) (hM : (NK 0).M w 0 ok l [.iface 82 (.pointer (some ⟨b, 0, none⟩))]) (hl : ¬ l.length < order)
    (hl2 : 2 ≤ l.length) (hl3 : l.length ≤ 1000) (hok : ∀ k, w.heap.size ≤ k → ok k) :
    Calls Try.prog 58 #[.pointer (some ⟨bt, 0, none⟩), .pointer (some ⟨b, 0, none⟩)] w (SplitPost 0 (halveLeafT order l) ok w) := by
  rw [halveLeafT, if_neg hl]
  obtain ⟨b', kv, vv, e, hb, hh, hk, hv⟩ := leaf_M.1 hM
  cases e
  obtain ⟨hko, hkb⟩ := SRow_own hk
  obtain ⟨hvo, hvb⟩ := IRow_own hv
  obtain ⟨A, c, rfl, hkc, hkc2, _, hkA⟩ := own_cells hko
  obtain ⟨A', c', rfl, hvc, hvc2, _, hvA⟩ := own_cells hvo
  simp only [List.length_map] at hkc hkA hvc hvA hh
  have x0 : w.cell? ⟨b, 0, none⟩ = some (.slice A l.length c) := (blk_cell hh 0).trans rfl
  have x1 : w.cell? ⟨b, 1, none⟩ = some (.slice A' l.length c') := (blk_cell hh 1).trans rfl
  have HM := Aside0.mk hM
  have hdec : decide (l.length < order) = false := decide_eq_false hl
  have hlt1 : bt < w.heap.size := World.block_lt_of_cell? w ⟨bt, 0, none⟩ h0
  have hlt2 : b < w.heap.size := blk_lt hh
  have hlm : l.length ≤ 9223372036854775807 := by omega
  have hdiv : ((l.length : Int) / 2) = ((l.length / 2 : Nat) : Int) := by omega
  obtain ⟨ad, rfl, hkA1⟩ := hkA (by omega)
  obtain ⟨ad', rfl, hvA1⟩ := hvA (by omega)
  have HDIV := Aside0.mk hdiv
  have hh1 : 1 ≤ l.length / 2 := by omega
  have hh2 : l.length / 2 < l.length := by omega
  have HKA := Aside0.mk hkA1
  have HVA := Aside0.mk hvA1
  clear hM hk hv hh hko hvo hdiv hkA hvA hkA1 hvA1
  go_enter Try.func58, Try.ntmps58
  go_wp2
  go_quiet (fail)
  go_wp2
  rw [HDIV.out]
  clear HDIV
  generalize l.length / 2 = h at *
  have hW : ((w.alloc (.cells #[.nilIface, .string ⟨#[]⟩, .nilIface] 107)).drewN nq).heap[w.heap.size]? = some (.cells #[.nilIface, .string ⟨#[]⟩, .nilIface] 107 (0, 0)) := heap_alloc_new w _
  have hWB : Below w.heap.size w ((w.alloc (.cells #[.nilIface, .string ⟨#[]⟩, .nilIface] 107)).drewN nq) := pw_below_drewN ((Below.refl _ w).alloc (Nat.le_refl _) _) nq
  generalize (w.alloc (.cells #[.nilIface, .string ⟨#[]⟩, .nilIface] 107)).drewN nq = W0 at *
  have y0 : W0.cell? ⟨b, 0, none⟩ = some (.slice (some ad) l.length c) := (hWB.cell (p := ⟨b, 0, none⟩) hlt2).trans x0
  have y1 : W0.cell? ⟨b, 1, none⟩ = some (.slice (some ad') l.length c') := (hWB.cell (p := ⟨b, 1, none⟩) hlt2).trans x1
  have hch : ¬ (c = h) := by omega
  have hch' : ¬ (c' = h) := by omega
  have HW := Aside0.mk hW
  have HWB := Aside0.mk hWB
  have hhl : h ≤ l.length := by omega
  have hl71 : ((((l.map S59.f0).map Value.string).drop h)).length = l.length - h := by simp
  have hl70 : ((((l.map S59.f1).map (Value.int .i64)).drop h)).length = l.length - h := by simp
  have HC1 : Aside0 (∀ W, Below W0.heap.size W0 W → Calls Try.prog 71 #[.slice (some (ad.add h)) (l.length - h) (c - h)] W fun e w' => ∃ v', e = .returned v' ∧ w'.ownsRow W.heap.size 9 1 v' (l.length - h) (((l.map S59.f0).map Value.string).drop h) ∧ Below W.heap.size W w') :=
    ⟨fun W hW => clone_str _ _ _ _ W (fun _ => ⟨_, rfl, cells_drop (cells_later HKA.out (below_go hW HWB.out)) h⟩) hl71 (by omega) (fun u hu => by
      obtain ⟨x, _, rfl⟩ := List.mem_map.1 (List.mem_of_mem_drop hu); rfl)⟩
  have HC2 : Aside0 (∀ W, Below W0.heap.size W0 W → Calls Try.prog 70 #[.slice (some (ad'.add h)) (l.length - h) (c' - h)] W fun e w' => ∃ v', e = .returned v' ∧ w'.ownsRow W.heap.size 2 1 v' (l.length - h) (((l.map S59.f1).map (Value.int .i64)).drop h) ∧ Below W.heap.size W w') :=
    ⟨fun W hW => clone_int _ _ _ _ W (fun _ => ⟨_, rfl, cells_drop (cells_later HVA.out (below_go hW HWB.out)) h⟩) hl70 (by omega) (fun u hu => by
      obtain ⟨x, _, rfl⟩ := List.mem_map.1 (List.mem_of_mem_drop hu); rfl)⟩
  have HSK : Aside0 (∀ W, Below W0.heap.size W0 W → W.cell? ⟨b, 0, none⟩ = some (.slice (some ad) l.length c) ∧ W.cell? ⟨b, 1, none⟩ = some (.slice (some ad') l.length c') ∧ Below W0.heap.size W0 W) :=
    ⟨fun W hW => ⟨pw_cell_below hW y0, pw_cell_below hW y1, hW⟩⟩
  clear x0 x1 h0 hW hWB hl71 hl70
  go_region_held3 (fun w' => w'.cell? ⟨b, 0, none⟩ = some (.slice (some ad) l.length c) ∧ w'.cell? ⟨b, 1, none⟩ = some (.slice (some ad') l.length c') ∧ Below W0.heap.size W0 w') (exact HSK.out _ (by repeat (first | assumption | exact Below.refl _ _ | refine below_drew ?_ | refine below_mk ?_ _))) (first | (go_at_call 71; refine (HC1.out _ (And.right (And.right (by assumption)))).mono ?_; rintro e w1 ⟨v1, rfl, ho1, hb1⟩; obtain ⟨g1, c1, _, rfl, _, _, hc1, hc1m, _, _⟩ := row_parts_str ho1 (by omega); have hBn' := below_go hb1 (And.right (And.right (by assumption))); (try (have HOv1 := Aside0.mk (pw_own_below HOv.out hb1); clear HOv; have HOv := HOv1; clear HOv1)); have HOk := Aside0.mk ho1; clear ho1 hb1) | (go_at_call 70; refine (HC2.out _ (And.right (And.right (by assumption)))).mono ?_; rintro e w1 ⟨v1, rfl, ho1, hb1⟩; obtain ⟨g2, c2, _, rfl, _, _, hc2, hc2m, _, _⟩ := row_parts_int ho1 (by omega); have hBn := below_go hb1 (And.right (And.right (by assumption))); (try (have HOk1 := Aside0.mk (pw_own_below HOk.out hb1); clear HOk; have HOk := HOk1; clear HOk1)); have HOv := Aside0.mk ho1; clear ho1 hb1))
  go_wp2
  have hB4 : Below W0.heap.size W0 (w1.alloc (.cells #[.slice (some ⟨g1, 0, none⟩) (l.length - h) c1, .slice (some ⟨g2, 0, none⟩) (l.length - h) c2] 85)) := below_mk hBn _
  have hH4 : (w1.alloc (.cells #[.slice (some ⟨g1, 0, none⟩) (l.length - h) c1, .slice (some ⟨g2, 0, none⟩) (l.length - h) c2] 85)).heap[w1.heap.size]? = some (.cells #[.slice (some ⟨g1, 0, none⟩) (l.length - h) c1, .slice (some ⟨g2, 0, none⟩) (l.length - h) c2] 85 (0, 0)) := heap_alloc_new w1 _
  have hk4 := HOk.out.alloc (.cells #[.slice (some ⟨g1, 0, none⟩) (l.length - h) c1, .slice (some ⟨g2, 0, none⟩) (l.length - h) c2] 85)
  have hv4 := HOv.out.alloc (.cells #[.slice (some ⟨g1, 0, none⟩) (l.length - h) c1, .slice (some ⟨g2, 0, none⟩) (l.length - h) c2] 85)
  have hrb : W0.heap.size ≤ w1.heap.size := hBn.size
  generalize w1.alloc (.cells #[.slice (some ⟨g1, 0, none⟩) (l.length - h) c1, .slice (some ⟨g2, 0, none⟩) (l.length - h) c2] 85) = W4 at *
  generalize w1.heap.size = rb at *
  have hgk := own_base hk4 _ rfl
  have hgv := own_base hv4 _ rfl
  have z0 : W4.cell? ⟨rb, 0, none⟩ = some (.slice (some ⟨g1, 0, none⟩) (l.length - h) c1) := (blk_cell hH4 0).trans rfl
  have z1 : W4.cell? ⟨g1, 0, none⟩ = some (.string l[h].f0) := by
    rw [hk4.cellAt 0 (by omega), List.getElem?_drop, List.getElem?_map, List.getElem?_map, Nat.add_zero, List.getElem?_eq_getElem hh2]
    rfl
  have yb0 := pw_cell_below hB4 y0
  have yb1 := pw_cell_below hB4 y1
  have hgd : (l.getD h z59).f0 = l[h].f0 := by rw [List.getD_eq_getElem?_getD, List.getElem?_eq_getElem hh2]; rfl
  have HGD := Aside0.mk hgd
  generalize l[h].f0 = mid at *
  have HC3 : Aside0 (∀ W, Below w.heap.size w W → Calls Try.prog 71 #[.slice (some ad) h c] W fun e w' => ∃ v', e = .returned v' ∧ w'.ownsRow W.heap.size 9 1 v' h (((l.map S59.f0).map Value.string).take h) ∧ Below W.heap.size W w') :=
    ⟨fun W hW => clone_str _ _ _ _ W (fun _ => ⟨_, rfl, cells_take (cells_later HKA.out hW) h⟩) (by simp; omega) (by omega) (fun u hu => by
      obtain ⟨x, _, rfl⟩ := List.mem_map.1 (List.mem_of_mem_take hu); rfl)⟩
  have HC4 : Aside0 (∀ W, Below w.heap.size w W → Calls Try.prog 70 #[.slice (some ad') h c'] W fun e w' => ∃ v', e = .returned v' ∧ w'.ownsRow W.heap.size 2 1 v' h (((l.map S59.f1).map (Value.int .i64)).take h) ∧ Below W.heap.size W w') :=
    ⟨fun W hW => clone_int _ _ _ _ W (fun _ => ⟨_, rfl, cells_take (cells_later HVA.out hW) h⟩) (by simp; omega) (by omega) (fun u hu => by
      obtain ⟨x, _, rfl⟩ := List.mem_map.1 (List.mem_of_mem_take hu); rfl)⟩
  have hrs : w.heap.size < W4.heap.size := Nat.lt_of_lt_of_le (blk_lt HW.out) hB4.size
  have hrs0 : w.heap.size < W0.heap.size := blk_lt HW.out
  have HRB : Aside0 (ResBox w.heap.size W4) := ⟨(hB4.block _ (blk_lt HW.out)).trans HW.out⟩
  have hcl1 : h ≤ c := by omega
  have hcl2 : h ≤ c' := by omega
  have HOLD : Aside0 (Below w.heap.size w W4) := ⟨below_go hB4 HWB.out⟩
  have HSK4 : Aside0 (∀ W, W4.grownBy W (some w.heap.size) → W.cell? ⟨b, 0, none⟩ = some (.slice (some ad) l.length c) ∧ W.cell? ⟨b, 1, none⟩ = some (.slice (some ad') l.length c') ∧ W.cell? ⟨rb, 0, none⟩ = some (.slice (some ⟨g1, 0, none⟩) (l.length - h) c1) ∧ W.cell? ⟨g1, 0, none⟩ = some (.string mid) ∧ W4.grownBy W (some w.heap.size)) :=
    ⟨fun W hW => ⟨hW.cell yb0 (fun e => by injection e with e; exact absurd e (Nat.ne_of_lt hlt2)), hW.cell yb1 (fun e => by injection e with e; exact absurd e (Nat.ne_of_lt hlt2)), hW.cell z0 (fun e => by injection e with e; have : rb = w.heap.size := e; omega), hW.cell z1 (fun e => by injection e with e; have : g1 = w.heap.size := e; have : W0.heap.size ≤ g1 := hgk; omega), hW⟩⟩
  have HB4 := Aside0.mk hB4
  have HH4 := Aside0.mk hH4
  have HK4 := Aside0.mk hk4
  have HV4 := Aside0.mk hv4
  have hpos : 0 < l.length - h := by omega
  have HGK := Aside0.mk hgk
  have HGV := Aside0.mk hgv
  clear y0 y1 yb0 yb1 z0 z1 hB4 hH4 hk4 hv4 HOk HOv HC1 HC2 HSK hBn hgd hgk hgv
  go_region_held3 (fun w' => w'.cell? ⟨b, 0, none⟩ = some (.slice (some ad) l.length c) ∧ w'.cell? ⟨b, 1, none⟩ = some (.slice (some ad') l.length c') ∧ w'.cell? ⟨rb, 0, none⟩ = some (.slice (some ⟨g1, 0, none⟩) (l.length - h) c1) ∧ w'.cell? ⟨g1, 0, none⟩ = some (.string mid) ∧ W4.grownBy w' (some w.heap.size)) (exact HSK4.out _ (by repeat (first | assumption | exact grownBy_refl _ _ | refine grownBy_drew ?_ | refine gb_alloc ?_ _ | refine gb_set ?_ _ _))) (first | (go_at_call 71; refine (HC3.out _ (gb_old HOLD.out (And.right (And.right (And.right (And.right (by assumption))))))).mono ?_; rintro e w2 ⟨v3, rfl, ho1, hb1⟩; obtain ⟨g3, c3, _, rfl, _, _, hc3, hc3m, _, _⟩ := row_parts_str ho1 (by omega); have hBn := gb_below hb1 (And.right (And.right (And.right (And.right (by assumption))))); have HRB2 : Aside0 (ResBox w.heap.size w2) := ⟨(hb1.block _ hrs).trans HRB.out⟩; have hrs2 : w.heap.size < w2.heap.size := Nat.lt_of_lt_of_le hrs hb1.size; have HOk := Aside0.mk ho1; clear ho1 hb1) | (go_at_call 70; refine (HC4.out _ (gb_old HOLD.out (And.right (And.right (And.right (And.right (by assumption))))))).mono ?_; rintro e w3 ⟨v4, rfl, ho1, hb1⟩; obtain ⟨g4, c4, _, rfl, _, _, hc4, hc4m, _, _⟩ := row_parts_int ho1 (by omega); have hBn3 := gb_below hb1 (And.right (And.right (And.right (And.right (by assumption))))); (have HOk1 := Aside0.mk (pw_own_below HOk.out hb1); clear HOk; have HOk := HOk1; clear HOk1); have HOv := Aside0.mk ho1; obtain ⟨⟨q0, q1, q2⟩, p0, p1, p2⟩ := ResBox.cells ((hb1.block _ hrs2).trans HRB2.out); have hrs3 : w.heap.size < w3.heap.size := Nat.lt_of_lt_of_le hrs2 hb1.size; clear ho1 hb1))
  go_wp2
  refine bodyPost_ret (v := .agg #[.iface 82 (.pointer (some ⟨w3.heap.size, 0, none⟩)), .string mid, .iface 82 (.pointer (some ⟨rb, 0, none⟩))]) (by simp [results, Try.results58, go_sem, q0, q1, q2, hrs3]) rfl ?_
  have hG3 : w3.grownBy ((((w3.setCell ⟨w.heap.size, 0, none⟩ (.iface 82 (.pointer (some ⟨w3.heap.size, 0, none⟩)))).setCell ⟨w.heap.size, 1, none⟩ (.string mid)).setCell ⟨w.heap.size, 2, none⟩ (.iface 82 (.pointer (some ⟨rb, 0, none⟩)))).alloc (.cells #[.slice (some ⟨g3, 0, none⟩) h c3, .slice (some ⟨g4, 0, none⟩) h c4] 85)) (some w.heap.size) := gb_alloc (gb_set (gb_set (gb_set (grownBy_refl _ _) _ _) _ _) _ _) _
  have hH3 := heap_alloc_new (((w3.setCell ⟨w.heap.size, 0, none⟩ (.iface 82 (.pointer (some ⟨w3.heap.size, 0, none⟩)))).setCell ⟨w.heap.size, 1, none⟩ (.string mid)).setCell ⟨w.heap.size, 2, none⟩ (.iface 82 (.pointer (some ⟨rb, 0, none⟩)))) (.cells #[.slice (some ⟨g3, 0, none⟩) h c3, .slice (some ⟨g4, 0, none⟩) h c4] 85)
  simp only [World.size_setCell] at hH3
  generalize ((((w3.setCell ⟨w.heap.size, 0, none⟩ (.iface 82 (.pointer (some ⟨w3.heap.size, 0, none⟩)))).setCell ⟨w.heap.size, 1, none⟩ (.string mid)).setCell ⟨w.heap.size, 2, none⟩ (.iface 82 (.pointer (some ⟨rb, 0, none⟩)))).alloc (.cells #[.slice (some ⟨g3, 0, none⟩) h c3, .slice (some ⟨g4, 0, none⟩) h c4] 85)) = Wf at *
  have hG := grownBy_trans hBn3 hG3
  have e1 : ((l.map S59.f0).map Value.string).take h = ((l.take h).map S59.f0).map Value.string := by rw [List.map_take, List.map_take]
  have e2 : ((l.map S59.f1).map (Value.int .i64)).take h = ((l.take h).map S59.f1).map (Value.int .i64) := by rw [List.map_take, List.map_take]
  have e3 : ((l.map S59.f0).map Value.string).drop h = ((l.drop h).map S59.f0).map Value.string := by rw [List.map_drop, List.map_drop]
  have e4 : ((l.map S59.f1).map (Value.int .i64)).drop h = ((l.drop h).map S59.f1).map (Value.int .i64) := by rw [List.map_drop, List.map_drop]
  have ok1 := own_kept HOk.out hG3 hrs
  have ov1 := own_kept HOv.out hG3 hrs2
  have ok2 := own_kept HK4.out hG hrs0
  have ov2 := own_kept HV4.out hG (Nat.lt_of_lt_of_le hrs0 hBn'.size)
  rw [e1] at ok1
  rw [e2] at ov1
  rw [e3] at ok2
  rw [e4] at ov2
  have hBf := gb_old HOLD.out hG
  refine ⟨hBf, _, _, by rw [HGD.out], ?_, ?_⟩
  · exact leaf_fin hok (Nat.le_of_lt hrs3) hH3 ok1 ov1 (Nat.le_of_lt hrs) (Nat.le_of_lt hrs2)
  · refine leaf_fin hok (Nat.le_trans (Nat.le_of_lt hrs0) hrb) ((hG.block rb (blk_lt HH4.out) (fun e => ?_)).trans HH4.out) ok2 ov2 (Nat.le_of_lt hrs0) (Nat.le_trans (Nat.le_of_lt hrs0) hBn'.size)
    injection e with e
    omega

end Go.Proofs.Ytjabcdfbncglnaa
namespace Go.Proofs.Ytjabcdfbncglnaa
open Go.RowKit Go.Proofs.YtjabcdfbncglnaaW.PrintWords Go.Proofs.YtjabcdfbncglnaaW.PrintLast Go.Proofs.YtjabcdfbncglnaaW.PrintMore
open PTreeRanks (S59 k59 z59)
set_option linter.unusedVariables false
set_option linter.unusedSimpArgs false

def halveT {d : Nat} (order : Nat) (ks : List ByteArray) (cs : List (T d)) : (List ByteArray × List (T d)) × Option (ByteArray × (List ByteArray × List (T d))) :=
  if cs.length ≤ order then ((ks, cs), none) else ((ks.take (cs.length / 2 - 1), cs.take (cs.length / 2)), some (ks.getD (cs.length / 2 - 1) ByteArray.empty, (ks.drop (cs.length / 2), cs.drop (cs.length / 2))))

theorem Elems_below {α : Type} {d : Kd α} {w W : World} {ok : Nat → Prop} {cs : List α} {vs : List Value} (h : Elems (RM d w ok) cs vs) (hb : Below w.heap.size w W) : Elems (RM d W ok) cs vs :=
  h.imp fun _ _ hm => M_below' hm hb

/-- What lies in a world lies in none of the blocks to come. -/
theorem FRow_off {α : Type} {d : Kd α} {e : Nat} {w : World} {ok : Nat → Prop} {v : Value} {xs : List α} (h : FRow d e w 0 ok v xs) : FRow d e w 0 (fun k => ok k ∧ k ≠ w.heap.size) v xs :=
  FRow_mono (fun k hk => ⟨hk.1, Nat.ne_of_lt hk.2.2.1⟩) (FRow_bound h)
theorem M_off {α : Type} {d : Kd α} {w : World} {ok : Nat → Prop} {x : α} {cs : List Value} (h : d.M w 0 ok x cs) : d.M w 0 (fun k => ok k ∧ k ≠ w.heap.size) x cs :=
  d.M_mono (fun k hk => ⟨hk.1, Nat.ne_of_lt hk.2.2.1⟩) (d.M_bound h)
theorem M_on {α : Type} {d : Kd α} {w W : World} {r : Nat} {ok : Nat → Prop} {x : α} {cs : List Value} (h : d.M w 0 (fun k => ok k ∧ k ≠ r) x cs) (hg : w.grownBy W (some r)) : d.M W 0 ok x cs :=
  d.M_mono (fun k hk => hk.1) (Kd.M_step h (fun k hk hlt => hg.block k hlt (fun e => hk.2 (by injection e))))
theorem gb_split {W : World} {r : Nat} (a b c : Value) : W.grownBy (((W.setCell ⟨r, 0, none⟩ a).setCell ⟨r, 1, none⟩ b).setCell ⟨r, 2, none⟩ c) (some r) := gb_set (gb_set (gb_set (grownBy_refl _ _) _ _) _ _) _ _

set_option maxRecDepth 100000 in
set_option maxHeartbeats 4000000 in
theorem halve_keep {d : Nat} {ks : List ByteArray} {cs : List (T d)} {kv cv : Value} {w : World} {ok : Nat → Prop} {bt order : Nat} (h0 : w.cell? ⟨bt, 0, none⟩ = some (.int .i64 order)) (hk : SRow w 0 ok kv ks) (hc : CRow d w 0 ok cv cs) (hok : ∀ k, w.heap.size ≤ k → ok k)
    (hsz : sizes cs ≤ 1099511627776) (hl : cs.length ≤ order) :
    Calls Try.prog 62 #[.pointer (some ⟨bt, 0, none⟩), kv, cv] w (SplitPost (d + 1) ((ks, cs), none) ok w) := by
  obtain ⟨A', c', rfl, hcc, hcC⟩ := FRow_reads hc
  have hB1 : Below w.heap.size w (w.alloc (.cells #[.nilIface, .string ⟨#[]⟩, .nilIface] 107)) := (Below.refl _ w).alloc (Nat.le_refl _) _
  have HN := Aside0.mk (newInner_calls (w := w.alloc (.cells #[.nilIface, .string ⟨#[]⟩, .nilIface] 107)) (FRow_below (FRow_off hk) hB1) (FRow_below (FRow_off hc) hB1) (fun k h => ⟨hok k (by simp at h; omega), by simp at h; omega⟩) hsz)
  have HB1 := Aside0.mk hB1
  have hdec : decide (cs.length ≤ order) = true := decide_eq_true hl
  have hlt1 : bt < w.heap.size := World.block_lt_of_cell? w ⟨bt, 0, none⟩ h0
  have hlm := hcC.2.1
  have HR : Aside0 (ResBox w.heap.size (w.alloc (.cells #[.nilIface, .string ⟨#[]⟩, .nilIface] 107))) := ⟨heap_alloc_new w _⟩
  clear hk hc hcC hB1
  go_enter Try.func62, Try.ntmps62
  go_wp2_with fail
  refine HN.out.mono ?_
  rintro e w' ⟨b, rfl, hb, hM, hBn⟩
  obtain ⟨⟨q0, q1, q2⟩, p0, p1, p2⟩ := ResBox.cells ((hBn.block w.heap.size (by simp)).trans HR.out)
  have HM := Aside0.mk hM
  have HBn := Aside0.mk hBn
  have hrs : w.heap.size < w'.heap.size := by have := hBn.size; simp at this; omega
  have hb2 : w.heap.size < b := by simp at hb; omega
  clear hM hBn hb
  go_wp2
  refine bodyPost_ret (v := .agg #[.iface 78 (.pointer (some ⟨b, 0, none⟩)), .string ⟨#[]⟩, .nilIface]) (by simp [results, Try.results62, go_sem, q0, q1, q2]) rfl ?_
  exact ⟨gb_old (below_then HB1.out (by simp) HBn.out) (gb_split _ _ _), _, rfl, M_on HM.out (gb_split _ _ _)⟩


set_option maxRecDepth 100000 in
set_option maxHeartbeats 8000000 in
theorem halve_split {d : Nat} {ks : List ByteArray} {cs : List (T d)} {kv cv : Value} {w : World} {ok : Nat → Prop} {bt order : Nat} (h0 : w.cell? ⟨bt, 0, none⟩ = some (.int .i64 order)) (hk : SRow w 0 ok kv ks) (hc : CRow d w 0 ok cv cs) (hok : ∀ k, w.heap.size ≤ k → ok k)
    (hsz : sizes cs ≤ 1099511627776) (hl : ¬ cs.length ≤ order) (hl1 : cs.length = ks.length + 1) (hl2 : 3 ≤ cs.length) (hl3 : cs.length ≤ 1000) :
    Calls Try.prog 62 #[.pointer (some ⟨bt, 0, none⟩), kv, cv] w (SplitPost (d + 1) (halveT order ks cs) ok w) := by
  rw [halveT, if_neg hl]
  have hk' := FRow_off hk
  have hc' := FRow_off hc
  obtain ⟨hko, hkb⟩ := SRow_own hk'
  obtain ⟨vs, hvo, hve, hvb⟩ := CRow_own hc'
  obtain ⟨A, c, rfl, hkc, hkc2, _, hkA⟩ := own_cells hko
  obtain ⟨A', c', rfl, hvc, hvc2, hvl, hvA⟩ := own_cells hvo
  obtain ⟨ad, rfl, hkA1⟩ := hkA (by omega)
  obtain ⟨ad', rfl, hvA1⟩ := hvA (by omega)
  have HOK : Aside0 (∀ k, w.heap.size < k → ok k ∧ k ≠ w.heap.size) := ⟨fun k h => ⟨hok k (Nat.le_of_lt h), by omega⟩⟩
  have hone : ∀ u ∈ vs, u.oneCell' = true := fun u hu => by
    obtain ⟨t, _, ht⟩ := hve.mem hu
    exact NK_one ((NK d).K_of_M ht)
  obtain ⟨m, hm⟩ : ∃ m, cs.length / 2 = m + 1 := ⟨cs.length / 2 - 1, by omega⟩
  have hdiv : ((cs.length : Int) / 2) = (m : Int) + 1 := by omega
  have hm1 : m + 1 < cs.length := by omega
  have hdec : decide (cs.length ≤ order) = false := decide_eq_false hl
  have hlt1 : bt < w.heap.size := World.block_lt_of_cell? w ⟨bt, 0, none⟩ h0
  have hlm : cs.length ≤ 9223372036854775807 := by omega
  have hsz1 : sizes (cs.take (m + 1)) ≤ 1099511627776 := by
    have : sizes (cs.take (m + 1)) + sizes (cs.drop (m + 1)) = sizes cs := by unfold sizes; rw [← List.sum_append, ← List.map_append, List.take_append_drop]
    omega
  have hsz2 : sizes (cs.drop (m + 1)) ≤ 1099511627776 := by
    have : sizes (cs.take (m + 1)) + sizes (cs.drop (m + 1)) = sizes cs := by unfold sizes; rw [← List.sum_append, ← List.map_append, List.take_append_drop]
    omega
  have hmid : ks[m]? = some (ks[m]'(by omega)) := List.getElem?_eq_getElem _
  have hgd : ks.getD m ByteArray.empty = ks[m]'(by omega) := by rw [List.getD_eq_getElem?_getD, hmid]; rfl
  have hcm : w.cell? (ad.add m) = some (.string (ks[m]'(by omega))) := hkA1 m _ (by rw [List.getElem?_map, hmid]; rfl)
  rw [hm, Nat.add_sub_cancel, hgd]
  generalize ks[m]'(by omega) = mid at *
  have HKA := Aside0.mk hkA1
  have HVA := Aside0.mk hvA1
  have HVE := Aside0.mk hve
  have HONE := Aside0.mk hone
  have HDIV := Aside0.mk hdiv
  have HVL := Aside0.mk hvl
  have HCM := Aside0.mk hcm
  have HL1 := Aside0.mk hl1
  have hwm : IntKind.i64.wrap (m : Int) = (m : Int) := by rw [IntKind.wrap_i64]; omega
  have hW : (w.alloc (.cells #[.nilIface, .string ⟨#[]⟩, .nilIface] 107)).heap[w.heap.size]? = some (.cells #[.nilIface, .string ⟨#[]⟩, .nilIface] 107 (0, 0)) := heap_alloc_new w _
  have hWB : Below w.heap.size w (w.alloc (.cells #[.nilIface, .string ⟨#[]⟩, .nilIface] 107)) := (Below.refl _ w).alloc (Nat.le_refl _) _
  have HWB := Aside0.mk hWB
  have HW := Aside0.mk hW
  -- the contracts in whatever later world
  have HC1 : Aside0 (∀ W, Below w.heap.size w W → Calls Try.prog 71 #[.slice (some ad) m c] W fun e w' => ∃ v', e = .returned v' ∧ w'.ownsRow W.heap.size 9 1 v' m ((ks.take m).map .string) ∧ Below W.heap.size W w') :=
    ⟨fun W hW => by rw [List.map_take]; exact clone_str _ _ _ _ W (fun _ => ⟨_, rfl, cells_take (cells_later HKA.out hW) m⟩) (by simp; omega) (by omega) (fun u hu => by
      obtain ⟨x, _, rfl⟩ := List.mem_map.1 (List.mem_of_mem_take hu); rfl)⟩
  have HC2 : Aside0 (∀ W, Below w.heap.size w W → Calls Try.prog 74 #[.slice (some ad') (m + 1) c'] W fun e w' => ∃ v', e = .returned v' ∧ w'.ownsRow W.heap.size 69 1 v' (m + 1) (vs.take (m + 1)) ∧ Below W.heap.size W w') :=
    ⟨fun W hW => clone_node _ _ _ _ W (fun _ => ⟨_, rfl, cells_take (cells_later HVA.out hW) _⟩) (by simp; omega) (by omega) (fun u hu => HONE.out u (List.mem_of_mem_take hu))⟩
  have HC3 : Aside0 (∀ W, Below w.heap.size w W → Calls Try.prog 71 #[.slice (some (ad.add (m + 1))) (ks.length - (m + 1)) (c - (m + 1))] W fun e w' => ∃ v', e = .returned v' ∧ w'.ownsRow W.heap.size 9 1 v' (ks.length - (m + 1)) ((ks.drop (m + 1)).map .string) ∧ Below W.heap.size W w') :=
    ⟨fun W hW => by rw [List.map_drop]; exact clone_str _ _ _ _ W (fun _ => ⟨_, rfl, cells_drop (cells_later HKA.out hW) _⟩) (by simp) (by omega) (fun u hu => by
      obtain ⟨x, _, rfl⟩ := List.mem_map.1 (List.mem_of_mem_drop hu); rfl)⟩
  have HC4 : Aside0 (∀ W, Below w.heap.size w W → Calls Try.prog 74 #[.slice (some (ad'.add (m + 1))) (cs.length - (m + 1)) (c' - (m + 1))] W fun e w' => ∃ v', e = .returned v' ∧ w'.ownsRow W.heap.size 69 1 v' (cs.length - (m + 1)) (vs.drop (m + 1)) ∧ Below W.heap.size W w') :=
    ⟨fun W hW => clone_node _ _ _ _ W (fun _ => ⟨_, rfl, cells_drop (cells_later HVA.out hW) _⟩) (by simp; omega) (by omega) (fun u hu => HONE.out u (List.mem_of_mem_drop hu))⟩
  have HN1 : Aside0 (∀ (W : World) (v1 v2 : Value) (b1 b2 n1 n2 : Nat), Below w.heap.size w W → w.heap.size < W.heap.size → w.heap.size < b1 → w.heap.size < b2 → W.ownsRow b1 9 1 v1 n1 ((ks.take m).map .string) → W.ownsRow b2 69 1 v2 n2 (vs.take (m + 1)) → Calls Try.prog 49 #[v1, v2] W (InnerPost d (ks.take m) (cs.take (m + 1)) (fun k => ok k ∧ k ≠ w.heap.size) W)) :=
    ⟨fun W v1 v2 b1 b2 n1 n2 hW hs hb1 hb2 h1 h2 => newInner_calls (SRow_mk h1 (fun k h => HOK.out k (by omega))) (CRow_mk h2 (Elems_below (HVE.out.take _) hW) (fun k h => HOK.out k (by omega))) (fun k h => HOK.out k (by omega)) hsz1⟩
  have HN2 : Aside0 (∀ (W : World) (v1 v2 : Value) (b1 b2 n1 n2 : Nat), Below w.heap.size w W → w.heap.size < W.heap.size → w.heap.size < b1 → w.heap.size < b2 → W.ownsRow b1 9 1 v1 n1 ((ks.drop (m + 1)).map .string) → W.ownsRow b2 69 1 v2 n2 (vs.drop (m + 1)) → Calls Try.prog 49 #[v1, v2] W (InnerPost d (ks.drop (m + 1)) (cs.drop (m + 1)) (fun k => ok k ∧ k ≠ w.heap.size) W)) :=
    ⟨fun W v1 v2 b1 b2 n1 n2 hW hs hb1 hb2 h1 h2 => newInner_calls (SRow_mk h1 (fun k h => HOK.out k (by omega))) (CRow_mk h2 (Elems_below (HVE.out.drop _) hW) (fun k h => HOK.out k (by omega))) (fun k h => HOK.out k (by omega)) hsz2⟩
  have hrs : w.heap.size < (w.alloc (.cells #[.nilIface, .string ⟨#[]⟩, .nilIface] 107)).heap.size := by simp
  have hmc : m ≤ c := by omega
  have hmc1 : m + 1 ≤ c' := by omega
  have hmk : m + 1 < ks.length := by omega
  have hmk2 : m < ks.length := by omega
  have hmk3 : m + 1 ≤ ks.length := by omega
  have hch : ¬ (c = m + 1) := by omega
  have hI1 : (m : Int) + 1 ≤ (c' : Int) := by omega
  have hI2 : (0 : Int) ≤ (m : Int) + 1 := by omega
  have hI3 : ((m : Int) + 1).toNat = m + 1 := by omega
  have hI4 : (m : Int) + 1 ≤ (ks.length : Int) := by omega
  have hI5 : (m : Int) + 1 ≤ (cs.length : Int) := by omega
  have hch' : ¬ (c' = m + 1) := by omega
  clear hk hc hk' hc' hko hvo hkA hvA hkA1 hvA1 hve hone hdiv hvl hcm hm hmid hgd hsz hsz1 hsz2 hW hWB hl1 hok hkb hvb
  go_enter Try.func62, Try.ntmps62
  go_wp2
  rw [HDIV.out]
  clear HDIV
  generalize w.alloc (.cells #[.nilIface, .string ⟨#[]⟩, .nilIface] 107) = W0 at *
  go_region_held3 (fun w' => Below W0.heap.size W0 w') (repeat (first | assumption | exact Below.refl _ _ | refine below_drew ?_ | refine below_mk ?_ _)) (first | (go_at_call 71; refine (HC1.out _ (below_go (by assumption) HWB.out)).mono ?_; rintro e w1 ⟨v1, rfl, ho1, hb1⟩; obtain ⟨A1, c1, rfl, _, hc1m, _, _⟩ := own_cells ho1; have hBn1 := below_go hb1 (by assumption); have HOk := Aside0.mk ho1; clear ho1 hb1) | (go_at_call 74; refine (HC2.out _ (below_go (by assumption) HWB.out)).mono ?_; rintro e w2 ⟨v2, rfl, ho1, hb1⟩; obtain ⟨A2, c2, rfl, _, hc2m, _, _⟩ := own_cells ho1; have hBn2 := below_go hb1 (by assumption); (have HOk1 := Aside0.mk (pw_own_below HOk.out hb1); clear HOk; have HOk := HOk1; clear HOk1); have HOc := Aside0.mk ho1; clear ho1 hb1) | (go_at_call 49; refine (HN1.out _ _ _ _ _ _ _ (below_go (by assumption) HWB.out) (Nat.lt_of_lt_of_le hrs (Below.size (by assumption))) hrs (Nat.lt_of_lt_of_le hrs hBn1.size) HOk.out HOc.out).mono ?_; rintro e w3 ⟨lb, rfl, hlb, hM, hb1⟩; have hBn3 := below_go hb1 (by assumption); have HM := Aside0.mk hM; clear hM hb1))
  go_wp2
  have HB3 := Aside0.mk (below_go hBn3 HWB.out)
  have hrs3 : w.heap.size < w3.heap.size := Nat.lt_of_lt_of_le hrs hBn3.size
  have HRB3 : Aside0 (ResBox w.heap.size w3) := ⟨(hBn3.block _ hrs).trans HW.out⟩
  have y0 := pw_cell_below HB3.out HCM.out
  have HSK : Aside0 (∀ W, w3.grownBy W (some w.heap.size) → W.cell? (ad.add m) = some (.string mid) ∧ w3.grownBy W (some w.heap.size)) :=
    ⟨fun W hW => ⟨hW.cell y0 (fun e => by
      injection e with e
      have := World.block_lt_of_cell? w _ HCM.out
      rw [e] at this
      omega), hW⟩⟩
  have hlbm := hlb
  clear y0 hBn1 hBn2 hBn3 HOk HOc HC1 HC2 HN1 h0
  go_region_held3 (fun w' => w'.cell? (ad.add m) = some (.string mid) ∧ w3.grownBy w' (some w.heap.size)) (exact HSK.out _ (by repeat (first | assumption | exact grownBy_refl _ _ | refine grownBy_drew ?_ | refine gb_alloc ?_ _ | refine gb_set ?_ _ _))) (first | (go_at_call 71; refine (HC3.out _ (gb_old HB3.out (And.right (by assumption)))).mono ?_; rintro e w4 ⟨v4, rfl, ho1, hb1⟩; obtain ⟨A4, c4, rfl, _, hc4m, _, _⟩ := own_cells ho1; have hBn4 := gb_below hb1 (And.right (by assumption)); have HRB4 : Aside0 (ResBox w.heap.size w4) := ⟨(hb1.block _ hrs3).trans HRB3.out⟩; have hrs4 : w.heap.size < w4.heap.size := Nat.lt_of_lt_of_le hrs3 hb1.size; have HOk := Aside0.mk ho1; clear ho1 hb1) | (go_at_call 74; refine (HC4.out _ (gb_old HB3.out (And.right (by assumption)))).mono ?_; rintro e w5 ⟨v5, rfl, ho1, hb1⟩; obtain ⟨A5, c5, rfl, _, hc5m, _, _⟩ := own_cells ho1; have hBn5 := gb_below hb1 (And.right (by assumption)); have HRB5 : Aside0 (ResBox w.heap.size w5) := ⟨(hb1.block _ hrs4).trans HRB4.out⟩; have hrs5 : w.heap.size < w5.heap.size := Nat.lt_of_lt_of_le hrs4 hb1.size; (have HOk1 := Aside0.mk (pw_own_below HOk.out hb1); clear HOk; have HOk := HOk1; clear HOk1); have HOc := Aside0.mk ho1; clear ho1 hb1) | (go_at_call 49; refine (HN2.out _ _ _ _ _ _ _ (gb_old HB3.out hBn5) hrs5 hrs3 hrs4 HOk.out HOc.out).mono ?_; rintro e w6 ⟨rb, rfl, hrb, hM2, hb1⟩; have hBn6 := gb_below hb1 hBn5; obtain ⟨⟨q0, q1, q2⟩, p0, p1, p2⟩ := ResBox.cells ((hb1.block _ hrs5).trans HRB5.out); have hrs6 : w.heap.size < w6.heap.size := Nat.lt_of_lt_of_le hrs5 hb1.size; have HM2 := Aside0.mk hM2; clear hM2 hb1))
  go_wp2
  refine bodyPost_ret (v := .agg #[.iface 78 (.pointer (some ⟨lb, 0, none⟩)), .string mid, .iface 78 (.pointer (some ⟨rb, 0, none⟩))]) (by simp [results, Try.results62, go_sem, q0, q1, q2]) rfl ?_
  exact ⟨gb_old HB3.out (grownBy_trans hBn6 (gb_split _ _ _)), _, _, rfl, M_on HM.out (grownBy_trans hBn6 (gb_split _ _ _)), M_on HM2.out (gb_split _ _ _)⟩

end Go.Proofs.Ytjabcdfbncglnaa
namespace Go.Proofs.Ytjabcdfbncglnaa
open Go.RowKit Go.Proofs.YtjabcdfbncglnaaW.PrintWords Go.Proofs.YtjabcdfbncglnaaW.PrintLast Go.Proofs.YtjabcdfbncglnaaW.PrintMore
open PTreeRanks (S59 k59 z59)
set_option linter.unusedVariables false
set_option linter.unusedSimpArgs false

def putLeaf (order : Nat) (l : List S59) (k : ByteArray) (x : Int) : List S59 × Option (ByteArray × List S59) :=
  if has (l.map S59.f0) k then (l.set (rank (l.map S59.f0) k) ⟨k, x⟩, none)
  else halveLeafT order (l.take (rank (l.map S59.f0) k) ++ ⟨k, x⟩ :: l.drop (rank (l.map S59.f0) k))

theorem set_self {α : Type} {l : List α} {i : Nat} {a : α} (h : l[i]? = some a) : l.set i a = l := by
  apply List.ext_getElem?
  intro j
  rw [List.getElem?_set]
  split
  · subst ‹i = j›
    rw [h, if_pos (List.getElem?_eq_some_iff.1 h).1]
  · rfl

theorem halveLeaf_calls {l : List S59} {w : World} {ok : Nat → Prop} {bt b order : Nat} (h0 : w.cell? ⟨bt, 0, none⟩ = some (.int .i64 order)) (hM : (NK 0).M w 0 ok l [.iface 82 (.pointer (some ⟨b, 0, none⟩))])
    (ho : 2 ≤ order) (hl3 : l.length ≤ 1000) (hok : ∀ k, w.heap.size ≤ k → ok k) :
    Calls Try.prog 58 #[.pointer (some ⟨bt, 0, none⟩), .pointer (some ⟨b, 0, none⟩)] w (SplitPost 0 (halveLeafT order l) ok w) := by
  by_cases h : l.length < order
  · have e : halveLeafT order l = (l, none) := by rw [halveLeafT, if_pos h]
    rw [e]
    exact halveLeaf_keep h0 hM h
  · exact halveLeaf_split h0 hM h (by omega) hl3 hok

theorem halve_calls {d : Nat} {ks : List ByteArray} {cs : List (T d)} {kv cv : Value} {w : World} {ok : Nat → Prop} {bt order : Nat} (h0 : w.cell? ⟨bt, 0, none⟩ = some (.int .i64 order)) (hk : SRow w 0 ok kv ks) (hc : CRow d w 0 ok cv cs) (hok : ∀ k, w.heap.size ≤ k → ok k)
    (hsz : sizes cs ≤ 1099511627776) (ho : 2 ≤ order) (hl1 : cs.length = ks.length + 1) (hl3 : cs.length ≤ 1000) :
    Calls Try.prog 62 #[.pointer (some ⟨bt, 0, none⟩), kv, cv] w (SplitPost (d + 1) (halveT order ks cs) ok w) := by
  by_cases h : cs.length ≤ order
  · have e : halveT order ks cs = ((ks, cs), none) := by rw [halveT, if_pos h]
    rw [e]
    exact halve_keep h0 hk hc hok hsz h
  · exact halve_split h0 hk hc hok hsz h hl1 (by omega) hl3

/-- A split's answer, once it is written into its box: a node alone. -/
theorem split_none {d : Nat} {t : T d} {ok : Nat → Prop} {w W W' : World} {e : Ending} (h : SplitPost d (t, none) (fun k => ok k ∧ k ≠ w.heap.size) W e W') (hb : Below w.heap.size w W) :
    ∃ ty b, e = .returned (.agg #[.iface ty (.pointer (some ⟨b, 0, none⟩)), .string ⟨#[]⟩, .nilIface]) ∧ Below W.heap.size W W' ∧
      SplitPost d (t, none) ok w (.returned (.agg #[.iface ty (.pointer (some ⟨b, 0, none⟩)), .string ⟨#[]⟩, .nilIface])) (((W'.setCell ⟨w.heap.size, 0, none⟩ (.iface ty (.pointer (some ⟨b, 0, none⟩)))).setCell ⟨w.heap.size, 1, none⟩ (.string ⟨#[]⟩)).setCell ⟨w.heap.size, 2, none⟩ .nilIface) := by
  obtain ⟨h1, lv, rfl, hM⟩ := h
  obtain ⟨ty, b, rfl⟩ := NK_form ((NK d).K_of_M hM)
  exact ⟨ty, b, rfl, h1, gb_old (below_then hb hb.size h1) (gb_split _ _ _), _, rfl, M_on hM (gb_split _ _ _)⟩
/-- Two nodes. -/
theorem split_some {d : Nat} {t r : T d} {mid : ByteArray} {ok : Nat → Prop} {w W W' : World} {e : Ending} (h : SplitPost d (t, some (mid, r)) (fun k => ok k ∧ k ≠ w.heap.size) W e W') (hb : Below w.heap.size w W) :
    ∃ ty b ty2 b2, e = .returned (.agg #[.iface ty (.pointer (some ⟨b, 0, none⟩)), .string mid, .iface ty2 (.pointer (some ⟨b2, 0, none⟩))]) ∧ Below W.heap.size W W' ∧
      SplitPost d (t, some (mid, r)) ok w (.returned (.agg #[.iface ty (.pointer (some ⟨b, 0, none⟩)), .string mid, .iface ty2 (.pointer (some ⟨b2, 0, none⟩))])) (((W'.setCell ⟨w.heap.size, 0, none⟩ (.iface ty (.pointer (some ⟨b, 0, none⟩)))).setCell ⟨w.heap.size, 1, none⟩ (.string mid)).setCell ⟨w.heap.size, 2, none⟩ (.iface ty2 (.pointer (some ⟨b2, 0, none⟩)))) := by
  obtain ⟨h1, lv, rv, rfl, hM, hM2⟩ := h
  obtain ⟨ty, b, rfl⟩ := NK_form ((NK d).K_of_M hM)
  obtain ⟨ty2, b2, rfl⟩ := NK_form ((NK d).K_of_M hM2)
  exact ⟨ty, b, ty2, b2, rfl, h1, gb_old (below_then hb hb.size h1) (gb_split _ _ _), _, _, rfl, M_on hM (gb_split _ _ _), M_on hM2 (gb_split _ _ _)⟩

set_option maxRecDepth 100000 in
set_option maxHeartbeats 8000000 in
theorem put_leaf {l : List S59} {w : World} {ok : Nat → Prop} {bt order : Nat} {v : Value} (k : ByteArray) (x : Int) (h0 : w.cell? ⟨bt, 0, none⟩ = some (.int .i64 order)) (ho3 : 3 ≤ order) (ho4 : order ≤ 900) (hM : (NK 0).M w 0 ok l [v]) (hS : Shape 0 l) (hok : ∀ k, w.heap.size ≤ k → ok k) :
    Calls Try.prog 48 #[.pointer (some ⟨bt, 0, none⟩), v, .string k, .int .i64 x] w (SplitPost 0 (putLeaf order l k x) ok w) := by
  have hM' := M_off hM
  obtain ⟨b, kv, vv, rfl, hb, hh, hk, hv⟩ := leaf_M.1 hM'
  obtain ⟨hko, hkb⟩ := SRow_own hk
  obtain ⟨hvo, hvb⟩ := IRow_own hv
  obtain ⟨A, c, rfl, hkc, hkc2, _, hkA⟩ := own_cells hko
  obtain ⟨A', c', rfl, hvc, hvc2, _, hvA⟩ := own_cells hvo
  obtain ⟨_, _, e1, _, hkC⟩ := FRow_reads hk
  cases e1
  obtain ⟨hs1, hs2⟩ : SortedK (l.map S59.f0) ∧ l.length ≤ 900 := hS
  have hse := search_ok k hs1 (by rw [List.length_map]; omega)
  simp only [List.length_map] at hkc hkA hvc hvA hh hkC hko hvo
  have hrl := rankT_le0 l k
  have hhas : has (l.map S59.f0) k = true → rank (l.map S59.f0) k < l.length := fun h => by
    have := has_lt h
    rwa [List.length_map] at this
  have hhas2 : has (l.map S59.f0) k = true → (l.map S59.f0)[rank (l.map S59.f0) k]? = some k := fun h => by
    unfold has at h
    exact of_decide_eq_true h
  have hset : has (l.map S59.f0) k = true → (l.set (rank (l.map S59.f0) k) ⟨k, x⟩).map S59.f0 = l.map S59.f0 := fun h => by
    rw [List.map_set]
    exact set_self (hhas2 h)
  have x0 : w.cell? ⟨b, 0, none⟩ = some (.slice A l.length c) := (blk_cell hh 0).trans rfl
  have x1 : w.cell? ⟨b, 1, none⟩ = some (.slice A' l.length c') := (blk_cell hh 1).trans rfl
  have hlb : b < w.heap.size := blk_lt hh
  have hB1 : Below w.heap.size w (w.alloc (.cells #[.nilIface, .string ⟨#[]⟩, .nilIface] 107)) := (Below.refl _ w).alloc (Nat.le_refl _) _
  have hR : ResBox w.heap.size (w.alloc (.cells #[.nilIface, .string ⟨#[]⟩, .nilIface] 107)) := heap_alloc_new w _
  have HM := Aside0.mk hM'
  have hk2 := hk
  rw [List.length_map] at hk2
  have HK := Aside0.mk hk2
  clear hk2
  have HB1 := Aside0.mk hB1
  have HR := Aside0.mk hR
  have HSE := Aside0.mk hse
  have HKC := Aside0.mk hkC
  have HHS := Aside0.mk hhas
  have HST := Aside0.mk hset
  have HKA := Aside0.mk hkA
  have HVA := Aside0.mk hvA
  have HS := Aside0.mk hs1
  have HOK : Aside0 (∀ k, w.heap.size < k → ok k ∧ k ≠ w.heap.size) := ⟨fun k h => ⟨hok k (Nat.le_of_lt h), by omega⟩⟩
  have hrs : w.heap.size < (w.alloc (.cells #[.nilIface, .string ⟨#[]⟩, .nilIface] 107)).heap.size := by simp
  have k1 := ta_leaf
  have hB0 := Aside0.mk h0
  have hokb := hb
  have hlm : l.length ≤ 9223372036854775807 := by omega
  clear hM hM' hk hv hh hB1 hR hse hkC hko hvo hhas hhas2 hset hkA hvA hs1 hok h0 hb hkb hvb
  unfold putLeaf
  generalize rank (l.map S59.f0) k = r at *
  generalize has (l.map S59.f0) k = th at *
  cases th with
  | true =>
    rw [if_pos rfl]
    have hr := HHS.out rfl
    have hst := HST.out rfl
    have HST2 := Aside0.mk hst
    clear hst HHS HST
    have HC1 : Aside0 (∀ W, Below w.heap.size w W → Calls Try.prog 57 #[.slice A' l.length c', .int .i64 r, .int .i64 x] W fun e w' => ∃ v', e = .returned v' ∧ w'.ownsRow W.heap.size 2 1 v' l.length (((l.set r ⟨k, x⟩).map S59.f1).map (.int .i64)) ∧ Below W.heap.size W w') :=
      ⟨fun W hW => by
        rw [List.map_set, List.map_set]
        refine changed_int A' l.length c' r _ x W (fun h => ?_) (by simp) (by omega) (fun u hu => by obtain ⟨y, _, rfl⟩ := List.mem_map.1 hu; rfl) hr
        obtain ⟨ad, e, hc⟩ := HVA.out h
        exact ⟨ad, e, cells_later hc hW⟩⟩
    obtain ⟨n, hse⟩ := HSE.out
    have HQ : Aside0 (∀ W, Below w.heap.size w W → Calls Try.prog 35 #[.slice A l.length c, .string k] W fun e w' => e = .returned (.tuple #[.int .i64 r, .bool true]) ∧ Drawn0 W w') :=
      ⟨fun W hW => by
        have := PTreeRanks.slices_BinarySearch_string_string.calls n A c _ k _ _ W (by rw [List.length_map]; exact Kd.C_below HKC.out hW) (by rw [List.length_map]; exact hkc) hse
        rwa [List.length_map] at this⟩
    clear hse HSE
    go_enter Try.func48, Try.ntmps48
    go_wp2_with fail
    refine (HQ.out _ HB1.out).mono ?_
    rintro e w' ⟨rfl, ⟨nq, rfl⟩⟩
    go_wp2
    have HB2 : Aside0 (Below w.heap.size w ((w.alloc (.cells #[.nilIface, .string ⟨#[]⟩, .nilIface] 107)).drewN nq)) := ⟨pw_below_drewN HB1.out nq⟩
    have HR2 : Aside0 (ResBox w.heap.size ((w.alloc (.cells #[.nilIface, .string ⟨#[]⟩, .nilIface] 107)).drewN nq)) := ⟨HR.out⟩
    have hrs2 : w.heap.size < ((w.alloc (.cells #[.nilIface, .string ⟨#[]⟩, .nilIface] 107)).drewN nq).heap.size := hrs
    generalize (w.alloc (.cells #[.nilIface, .string ⟨#[]⟩, .nilIface] 107)).drewN nq = W0 at *
    have HSK : Aside0 (∀ W, W0.grownBy W (some w.heap.size) → W.cell? ⟨b, 0, none⟩ = some (.slice A l.length c) ∧ W.cell? ⟨b, 1, none⟩ = some (.slice A' l.length c') ∧ W0.grownBy W (some w.heap.size)) :=
      ⟨fun W hW => ⟨pw_cell_below (gb_old HB2.out hW) x0, pw_cell_below (gb_old HB2.out hW) x1, hW⟩⟩
    clear x0 x1 HB1 HR hrs HQ HKC
    go_region_held3 (fun w' => w'.cell? ⟨b, 0, none⟩ = some (.slice A l.length c) ∧ w'.cell? ⟨b, 1, none⟩ = some (.slice A' l.length c') ∧ W0.grownBy w' (some w.heap.size)) (exact HSK.out _ (by repeat (first | assumption | exact grownBy_refl _ _ | refine grownBy_drew ?_ | refine gb_alloc ?_ _ | refine gb_set ?_ _ _))) (first | (go_at_call 57; refine (HC1.out _ (gb_old HB2.out (And.right (And.right (by assumption))))).mono ?_; rintro e w1 ⟨v1, rfl, ho1, hb1⟩; obtain ⟨A1, c1, rfl, _, hc1m, _, _⟩ := own_cells ho1; have hBn := gb_below hb1 (And.right (And.right (by assumption))); have HOv := Aside0.mk ho1; obtain ⟨⟨q0, q1, q2⟩, p0, p1, p2⟩ := ResBox.cells ((hb1.block _ hrs2).trans HR2.out); have hrs3 : w.heap.size < w1.heap.size := Nat.lt_of_lt_of_le hrs2 hb1.size; clear ho1 hb1))
    go_wp2
    refine bodyPost_ret (v := .agg #[.iface 82 (.pointer (some ⟨w1.heap.size, 0, none⟩)), .string ⟨#[]⟩, .nilIface]) (by simp [results, Try.results48, go_sem, q0, q1, q2, hrs3]) rfl ?_
    have hG3 : w1.grownBy ((((w1.setCell ⟨w.heap.size, 0, none⟩ (.iface 82 (.pointer (some ⟨w1.heap.size, 0, none⟩)))).setCell ⟨w.heap.size, 1, none⟩ (.string ⟨#[]⟩)).setCell ⟨w.heap.size, 2, none⟩ .nilIface).alloc (.cells #[.slice A l.length c, .slice A1 l.length c1] 85)) (some w.heap.size) := gb_alloc (gb_split _ _ _) _
    have hH3 := heap_alloc_new (((w1.setCell ⟨w.heap.size, 0, none⟩ (.iface 82 (.pointer (some ⟨w1.heap.size, 0, none⟩)))).setCell ⟨w.heap.size, 1, none⟩ (.string ⟨#[]⟩)).setCell ⟨w.heap.size, 2, none⟩ .nilIface) (.cells #[.slice A l.length c, .slice A1 l.length c1] 85)
    simp only [World.size_setCell] at hH3
    generalize ((((w1.setCell ⟨w.heap.size, 0, none⟩ (.iface 82 (.pointer (some ⟨w1.heap.size, 0, none⟩)))).setCell ⟨w.heap.size, 1, none⟩ (.string ⟨#[]⟩)).setCell ⟨w.heap.size, 2, none⟩ .nilIface).alloc (.cells #[.slice A l.length c, .slice A1 l.length c1] 85)) = Wf at *
    have hBf := gb_old HB2.out (grownBy_trans hBn hG3)
    refine ⟨hBf, _, rfl, leaf_M.2 ⟨w1.heap.size, _, _, rfl, (HOK.out _ hrs3).1, hH3, ?_, ?_⟩⟩
    · rw [HST2.out]
      exact FRow_mono (fun _ h => h.1) (FRow_below HK.out hBf)
    · exact IRow_mk (own_kept HOv.out hG3 hrs2) (fun k h => (HOK.out k (Nat.lt_of_lt_of_le hrs2 h)).1)
  | false =>
    rw [if_neg (by simp)]
    clear HHS HST
    have HC1 : Aside0 (∀ W, Below w.heap.size w W → Calls Try.prog 59 #[.slice A l.length c, .int .i64 r, .string k] W fun e w' => ∃ v', e = .returned v' ∧ w'.ownsRow W.heap.size 9 1 v' (l.length + 1) (((l.take r ++ ⟨k, x⟩ :: l.drop r).map S59.f0).map .string) ∧ Below W.heap.size W w') :=
      ⟨fun W hW => by
        rw [List.map_append, List.map_append, List.map_cons, List.map_cons, List.map_take, List.map_take, List.map_drop, List.map_drop]
        refine with_str A l.length c r _ k W (fun h => ?_) (by simp) (by omega) (fun u hu => by obtain ⟨y, _, rfl⟩ := List.mem_map.1 hu; rfl) hrl
        obtain ⟨ad, e, hc⟩ := HKA.out h
        exact ⟨ad, e, cells_later hc hW⟩⟩
    have HC2 : Aside0 (∀ W, Below w.heap.size w W → Calls Try.prog 60 #[.slice A' l.length c', .int .i64 r, .int .i64 x] W fun e w' => ∃ v', e = .returned v' ∧ w'.ownsRow W.heap.size 2 1 v' (l.length + 1) (((l.take r ++ ⟨k, x⟩ :: l.drop r).map S59.f1).map (.int .i64)) ∧ Below W.heap.size W w') :=
      ⟨fun W hW => by
        rw [List.map_append, List.map_append, List.map_cons, List.map_cons, List.map_take, List.map_take, List.map_drop, List.map_drop]
        refine with_int A' l.length c' r _ x W (fun h => ?_) (by simp) (by omega) (fun u hu => by obtain ⟨y, _, rfl⟩ := List.mem_map.1 hu; rfl) hrl
        obtain ⟨ad, e, hc⟩ := HVA.out h
        exact ⟨ad, e, cells_later hc hW⟩⟩
    obtain ⟨n, hse⟩ := HSE.out
    have HQ : Aside0 (∀ W, Below w.heap.size w W → Calls Try.prog 35 #[.slice A l.length c, .string k] W fun e w' => e = .returned (.tuple #[.int .i64 r, .bool false]) ∧ Drawn0 W w') :=
      ⟨fun W hW => by
        have := PTreeRanks.slices_BinarySearch_string_string.calls n A c _ k _ _ W (by rw [List.length_map]; exact Kd.C_below HKC.out hW) (by rw [List.length_map]; exact hkc) hse
        rwa [List.length_map] at this⟩
    have HH : Aside0 (∀ (W : World) (nb b1 b2 n1 n2 : Nat) (v1 v2 : Value), Below w.heap.size w W → w.heap.size < W.heap.size → w.heap.size < b1 → w.heap.size < b2 → w.heap.size < nb → W.heap[nb]? = some (.cells #[v1, v2] 85 (0, 0)) →
        W.ownsRow b1 9 1 v1 n1 (((l.take r ++ ⟨k, x⟩ :: l.drop r).map S59.f0).map .string) → W.ownsRow b2 2 1 v2 n2 (((l.take r ++ ⟨k, x⟩ :: l.drop r).map S59.f1).map (.int .i64)) →
        Calls Try.prog 58 #[.pointer (some ⟨bt, 0, none⟩), .pointer (some ⟨nb, 0, none⟩)] W (SplitPost 0 (halveLeafT order (l.take r ++ ⟨k, x⟩ :: l.drop r)) (fun k => ok k ∧ k ≠ w.heap.size) W)) :=
      ⟨fun W nb b1 b2 n1 n2 v1 v2 hW hs h1 h2 h3 hh hr1 hr2 => halveLeaf_calls (pw_cell_below hW hB0.out)
        (leaf_M.2 ⟨nb, v1, v2, rfl, HOK.out nb h3, hh, SRow_mk hr1 (fun k h => HOK.out k (by omega)), IRow_mk hr2 (fun k h => HOK.out k (by omega))⟩) (by omega)
        (by rw [List.length_append, List.length_take, List.length_cons, List.length_drop]; omega) (fun k h => HOK.out k (by omega))⟩
    clear hse HSE
    generalize halveLeafT order (l.take r ++ ⟨k, x⟩ :: l.drop r) = sp at *
    obtain ⟨s1, _ | ⟨mid, s2⟩⟩ := sp
    · go_enter Try.func48, Try.ntmps48
      go_wp2_with fail
      refine (HQ.out _ HB1.out).mono ?_
      rintro e w' ⟨rfl, ⟨nq, rfl⟩⟩
      go_wp2
      have HB2 : Aside0 (Below w.heap.size w ((w.alloc (.cells #[.nilIface, .string ⟨#[]⟩, .nilIface] 107)).drewN nq)) := ⟨pw_below_drewN HB1.out nq⟩
      have HR2 : Aside0 (ResBox w.heap.size ((w.alloc (.cells #[.nilIface, .string ⟨#[]⟩, .nilIface] 107)).drewN nq)) := ⟨HR.out⟩
      have hrs2 : w.heap.size < ((w.alloc (.cells #[.nilIface, .string ⟨#[]⟩, .nilIface] 107)).drewN nq).heap.size := hrs
      generalize (w.alloc (.cells #[.nilIface, .string ⟨#[]⟩, .nilIface] 107)).drewN nq = W0 at *
      have HSK : Aside0 (∀ W, W0.grownBy W (some w.heap.size) → W.cell? ⟨b, 0, none⟩ = some (.slice A l.length c) ∧ W.cell? ⟨b, 1, none⟩ = some (.slice A' l.length c') ∧ W0.grownBy W (some w.heap.size)) :=
        ⟨fun W hW => ⟨pw_cell_below (gb_old HB2.out hW) x0, pw_cell_below (gb_old HB2.out hW) x1, hW⟩⟩
      clear x0 x1 HB1 HR hrs HQ HKC
      go_region_held3 (fun w' => w'.cell? ⟨b, 0, none⟩ = some (.slice A l.length c) ∧ w'.cell? ⟨b, 1, none⟩ = some (.slice A' l.length c') ∧ W0.grownBy w' (some w.heap.size)) (exact HSK.out _ (by repeat (first | assumption | exact grownBy_refl _ _ | refine grownBy_drew ?_ | refine gb_alloc ?_ _ | refine gb_set ?_ _ _))) (first | (go_at_call 59; refine (HC1.out _ (gb_old HB2.out (And.right (And.right (by assumption))))).mono ?_; rintro e w1 ⟨v1, rfl, ho1, hb1⟩; obtain ⟨A1, c1, rfl, _, hc1m, _, _⟩ := own_cells ho1; have hBn := gb_below hb1 (And.right (And.right (by assumption))); have HOk := Aside0.mk ho1; have HR3 : Aside0 (ResBox w.heap.size w1) := ⟨(hb1.block _ hrs2).trans HR2.out⟩; have hrs3 : w.heap.size < w1.heap.size := Nat.lt_of_lt_of_le hrs2 hb1.size; clear ho1 hb1) | (go_at_call 60; refine (HC2.out _ (gb_old HB2.out (And.right (And.right (by assumption))))).mono ?_; rintro e w2 ⟨v2, rfl, ho1, hb1⟩; obtain ⟨A2, c2, rfl, _, hc2m, _, _⟩ := own_cells ho1; have hBn2 := gb_below hb1 (And.right (And.right (by assumption))); (have HOk1 := Aside0.mk (pw_own_below HOk.out hb1); clear HOk; have HOk := HOk1; clear HOk1); have HOv := Aside0.mk ho1; have HR4 : Aside0 (ResBox w.heap.size w2) := ⟨(hb1.block _ hrs3).trans HR3.out⟩; have hrs4 : w.heap.size < w2.heap.size := Nat.lt_of_lt_of_le hrs3 hb1.size; clear ho1 hb1) | (go_at_call 58; refine (HH.out _ _ _ _ _ _ _ _ (gb_old HB2.out (And.right (And.right (by assumption)))) (by simp; omega) hrs2 hrs3 hrs4 (heap_alloc_new _ _) (HOk.out.alloc _) (HOv.out.alloc _)).mono ?_; rintro e w5 hP; obtain ⟨ty, bb, rfl, hb5, hfin⟩ := split_none hP (gb_old HB2.out (And.right (And.right (by assumption)))); have hBn5 := gb_below hb5 (And.right (And.right (by assumption))); obtain ⟨⟨q0, q1, q2⟩, p0, p1, p2⟩ := ResBox.cells ((hb5.block _ (by simp; omega)).trans ((Below.heap_alloc _ _ _ hrs4).trans HR4.out)); have HFIN := Aside0.mk hfin; clear hfin hP hb5))
      go_wp2
      refine bodyPost_ret (v := .agg #[.iface ty (.pointer (some ⟨bb, 0, none⟩)), .string ⟨#[]⟩, .nilIface]) (by simp [results, Try.results48, go_sem, q0, q1, q2]) rfl ?_
      exact HFIN.out
    · go_enter Try.func48, Try.ntmps48
      go_wp2_with fail
      refine (HQ.out _ HB1.out).mono ?_
      rintro e w' ⟨rfl, ⟨nq, rfl⟩⟩
      go_wp2
      have HB2 : Aside0 (Below w.heap.size w ((w.alloc (.cells #[.nilIface, .string ⟨#[]⟩, .nilIface] 107)).drewN nq)) := ⟨pw_below_drewN HB1.out nq⟩
      have HR2 : Aside0 (ResBox w.heap.size ((w.alloc (.cells #[.nilIface, .string ⟨#[]⟩, .nilIface] 107)).drewN nq)) := ⟨HR.out⟩
      have hrs2 : w.heap.size < ((w.alloc (.cells #[.nilIface, .string ⟨#[]⟩, .nilIface] 107)).drewN nq).heap.size := hrs
      generalize (w.alloc (.cells #[.nilIface, .string ⟨#[]⟩, .nilIface] 107)).drewN nq = W0 at *
      have HSK : Aside0 (∀ W, W0.grownBy W (some w.heap.size) → W.cell? ⟨b, 0, none⟩ = some (.slice A l.length c) ∧ W.cell? ⟨b, 1, none⟩ = some (.slice A' l.length c') ∧ W0.grownBy W (some w.heap.size)) :=
        ⟨fun W hW => ⟨pw_cell_below (gb_old HB2.out hW) x0, pw_cell_below (gb_old HB2.out hW) x1, hW⟩⟩
      clear x0 x1 HB1 HR hrs HQ HKC
      go_region_held3 (fun w' => w'.cell? ⟨b, 0, none⟩ = some (.slice A l.length c) ∧ w'.cell? ⟨b, 1, none⟩ = some (.slice A' l.length c') ∧ W0.grownBy w' (some w.heap.size)) (exact HSK.out _ (by repeat (first | assumption | exact grownBy_refl _ _ | refine grownBy_drew ?_ | refine gb_alloc ?_ _ | refine gb_set ?_ _ _))) (first | (go_at_call 59; refine (HC1.out _ (gb_old HB2.out (And.right (And.right (by assumption))))).mono ?_; rintro e w1 ⟨v1, rfl, ho1, hb1⟩; obtain ⟨A1, c1, rfl, _, hc1m, _, _⟩ := own_cells ho1; have hBn := gb_below hb1 (And.right (And.right (by assumption))); have HOk := Aside0.mk ho1; have HR3 : Aside0 (ResBox w.heap.size w1) := ⟨(hb1.block _ hrs2).trans HR2.out⟩; have hrs3 : w.heap.size < w1.heap.size := Nat.lt_of_lt_of_le hrs2 hb1.size; clear ho1 hb1) | (go_at_call 60; refine (HC2.out _ (gb_old HB2.out (And.right (And.right (by assumption))))).mono ?_; rintro e w2 ⟨v2, rfl, ho1, hb1⟩; obtain ⟨A2, c2, rfl, _, hc2m, _, _⟩ := own_cells ho1; have hBn2 := gb_below hb1 (And.right (And.right (by assumption))); (have HOk1 := Aside0.mk (pw_own_below HOk.out hb1); clear HOk; have HOk := HOk1; clear HOk1); have HOv := Aside0.mk ho1; have HR4 : Aside0 (ResBox w.heap.size w2) := ⟨(hb1.block _ hrs3).trans HR3.out⟩; have hrs4 : w.heap.size < w2.heap.size := Nat.lt_of_lt_of_le hrs3 hb1.size; clear ho1 hb1) | (go_at_call 58; refine (HH.out _ _ _ _ _ _ _ _ (gb_old HB2.out (And.right (And.right (by assumption)))) (by simp; omega) hrs2 hrs3 hrs4 (heap_alloc_new _ _) (HOk.out.alloc _) (HOv.out.alloc _)).mono ?_; rintro e w5 hP; obtain ⟨ty, bb, ty2, bb2, rfl, hb5, hfin⟩ := split_some hP (gb_old HB2.out (And.right (And.right (by assumption)))); have hBn5 := gb_below hb5 (And.right (And.right (by assumption))); obtain ⟨⟨q0, q1, q2⟩, p0, p1, p2⟩ := ResBox.cells ((hb5.block _ (by simp; omega)).trans ((Below.heap_alloc _ _ _ hrs4).trans HR4.out)); have HFIN := Aside0.mk hfin; clear hfin hP hb5))
      go_wp2
      refine bodyPost_ret (v := .agg #[.iface ty (.pointer (some ⟨bb, 0, none⟩)), .string mid, .iface ty2 (.pointer (some ⟨bb2, 0, none⟩))]) (by simp [results, Try.results48, go_sem, q0, q1, q2]) rfl ?_
      exact HFIN.out

end Go.Proofs.Ytjabcdfbncglnaa
namespace Go.Proofs.Ytjabcdfbncglnaa
open Go.RowKit Go.Proofs.YtjabcdfbncglnaaW.PrintWords Go.Proofs.YtjabcdfbncglnaaW.PrintLast Go.Proofs.YtjabcdfbncglnaaW.PrintMore
open PTreeRanks (S59 k59 z59)
set_option linter.unusedVariables false
set_option linter.unusedSimpArgs false

/-- What a put makes of an inner node whose kid number i has become s. -/
def putUp {d : Nat} (order : Nat) (ks : List ByteArray) (cs : List (T d)) (i : Nat) (s : T d × Option (ByteArray × T d)) : (List ByteArray × List (T d)) × Option (ByteArray × (List ByteArray × List (T d))) :=
  match s.2 with
  | none => ((ks, cs.set i s.1), none)
  | some (mid, r) => halveT order (ks.take i ++ mid :: ks.drop i) ((cs.set i s.1).take (i + 1) ++ r :: (cs.set i s.1).drop (i + 1))

def putT (order : Nat) : (d : Nat) → T d → ByteArray → Int → T d × Option (ByteArray × T d)
  | 0, l, k, x => putLeaf order l k x
  | d + 1, t, k, x => match t.2[kidIx t.1 k]? with
    | none => (t, none)
    | some c => putUp order t.1 t.2 (kidIx t.1 k) (putT order d c k x)

theorem putT_inner (order : Nat) {d : Nat} {ks : List ByteArray} {cs : List (T d)} (k : ByteArray) (x : Int) (h : kidIx ks k < cs.length) :
    putT order (d + 1) ((ks, cs) : List ByteArray × List (T d)) k x = putUp order ks cs (kidIx ks k) (putT order d cs[kidIx ks k] k x) := by
  show (match cs[kidIx ks k]? with | none => _ | some c => putUp order ks cs (kidIx ks k) (putT order d c k x)) = _
  rw [List.getElem?_eq_getElem h]

def sizeS {d : Nat} (s : T d × Option (ByteArray × T d)) : Nat := size d s.1 + match s.2 with
  | none => 0
  | some (_, r) => size d r

theorem sizes_append {d : Nat} (a b : List (T d)) : sizes (a ++ b) = sizes a + sizes b := by unfold sizes; rw [List.map_append, List.sum_append]
theorem sizes_cons {d : Nat} (a : T d) (b : List (T d)) : sizes (a :: b) = size d a + sizes b := by unfold sizes; rw [List.map_cons, List.sum_cons]
theorem sizes_split {d : Nat} (cs : List (T d)) (i : Nat) : sizes (cs.take i) + sizes (cs.drop i) = sizes cs := by rw [← sizes_append, List.take_append_drop]
theorem sizes_set {d : Nat} (cs : List (T d)) (i : Nat) (c : T d) (h : i < cs.length) : sizes (cs.set i c) + size d cs[i] = sizes cs + size d c := by
  rw [List.set_eq_take_append_cons_drop, if_pos h, sizes_append, sizes_cons]
  have h1 := sizes_split cs i
  have h2 := List.drop_eq_getElem_cons h
  rw [h2, sizes_cons] at h1
  omega
theorem sizes_ins {d : Nat} (cs : List (T d)) (i : Nat) (c : T d) : sizes (cs.take i ++ c :: cs.drop i) = sizes cs + size d c := by
  rw [sizes_append, sizes_cons]
  have h1 := sizes_split cs i
  omega

theorem sizeS_halveT {d : Nat} (order : Nat) (ks : List ByteArray) (cs : List (T d)) : sizeS (d := d + 1) (halveT order ks cs) = sizes cs := by
  unfold halveT
  split
  · rfl
  · show sizes (cs.take _) + sizes (cs.drop _) = _
    exact sizes_split cs _
theorem sizeS_halveLeafT (order : Nat) (l : List S59) : sizeS (d := 0) (halveLeafT order l) = l.length := by
  unfold halveLeafT
  split
  · rfl
  · show (l.take _).length + (l.drop _).length = _
    rw [List.length_take, List.length_drop]
    omega

theorem putLeaf_size (order : Nat) (l : List S59) (k : ByteArray) (x : Int) : sizeS (d := 0) (putLeaf order l k x) ≤ l.length + 1 := by
  unfold putLeaf
  split
  · show (l.set _ _).length + 0 ≤ l.length + 1
    rw [List.length_set]
    omega
  · rw [sizeS_halveLeafT, List.length_append, List.length_cons, List.length_take, List.length_drop]
    omega
theorem putT_size (order : Nat) : ∀ (d : Nat) (t : T d) (k : ByteArray) (x : Int), sizeS (putT order d t k x) ≤ size d t + 1
  | 0, l, k, x => putLeaf_size order l k x
  | d + 1, (ks, cs), k, x => by
    rcases Nat.lt_or_ge (kidIx ks k) cs.length with h | h
    · rw [putT_inner order k x h]
      have ih := putT_size order d cs[kidIx ks k] k x
      generalize putT order d cs[kidIx ks k] k x = s at *
      obtain ⟨s1, _ | ⟨mid, r⟩⟩ := s
      · show sizes (cs.set _ s1) + 0 ≤ sizes cs + 1
        have := sizes_set cs _ s1 h
        have ih : size d s1 + 0 ≤ _ := ih
        omega
      · show sizeS (d := d + 1) (halveT order _ _) ≤ sizes cs + 1
        rw [sizeS_halveT, sizes_ins]
        show sizes (cs.set (kidIx ks k) s1) + size d r ≤ _
        have h3 := sizes_set cs (kidIx ks k) s1 h
        have ih : size d s1 + size d r ≤ size d cs[kidIx ks k] + 1 := ih
        omega
    · show sizeS (d := d + 1) (match cs[kidIx ks k]? with | none => ((ks, cs), none) | some c => putUp order ks cs (kidIx ks k) (putT order d c k x)) ≤ _
      rw [List.getElem?_eq_none h]
      show sizes cs + 0 ≤ sizes cs + 1
      omega

/-- What a put below a node of depth d does. -/
def PutOk (order bt : Nat) (k : ByteArray) (x : Int) (d : Nat) : Prop := ∀ (t : T d) (v : Value) (w : World) (ok : Nat → Prop), w.cell? ⟨bt, 0, none⟩ = some (.int .i64 order) → (NK d).M w 0 ok t [v] → Shape d t → size d t < 1099511627776 → (∀ k, w.heap.size ≤ k → ok k) →
  Calls Try.prog 48 #[.pointer (some ⟨bt, 0, none⟩), v, .string k, .int .i64 x] w (SplitPost d (putT order d t k x) ok w)

end Go.Proofs.Ytjabcdfbncglnaa
namespace Go.Proofs.Ytjabcdfbncglnaa
open Go.RowKit Go.Proofs.YtjabcdfbncglnaaW.PrintWords Go.Proofs.YtjabcdfbncglnaaW.PrintLast Go.Proofs.YtjabcdfbncglnaaW.PrintMore
open PTreeRanks (S59 k59 z59)
set_option linter.unusedVariables false
set_option linter.unusedSimpArgs false

def inR (lo hi : Option ByteArray) (k : ByteArray) : Prop := (∀ l, lo = some l → blt k l = false) ∧ (∀ h, hi = some h → blt k h = true)
def ltB (lo hi : Option ByteArray) : Prop := ∀ l h, lo = some l → hi = some h → blt l h = true
theorem inR_ltB {lo hi : Option ByteArray} {k : ByteArray} (h : inR lo hi k) : ltB lo hi := fun l u e1 e2 => le_blt (h.1 l e1) (h.2 u e2)

/-- The kids between the keys. -/
def WK {α : Type} (P : Option ByteArray → Option ByteArray → α → Prop) : Option ByteArray → Option ByteArray → List ByteArray → List α → Prop
  | lo, hi, [], [c] => P lo hi c
  | lo, hi, k :: ks, c :: cs => P lo (some k) c ∧ WK P (some k) hi ks cs
  | _, _, _, _ => False

def keysOf (l : List S59) : List ByteArray := l.map S59.f0

def minOf (order : Nat) : Nat → Nat
  | 0 => order / 2
  | _ + 1 => (order + 1) / 2

/-- A node of depth d, filled from m on, its keys between lo and hi. -/
def WF (order : Nat) : (d : Nat) → Nat → Option ByteArray → Option ByteArray → T d → Prop
  | 0, m, lo, hi, l => SortedK (List.map S59.f0 l) ∧ (∀ x ∈ List.map S59.f0 l, inR lo hi x) ∧ List.length (α := S59) l + 1 ≤ order ∧ m ≤ List.length (α := S59) l
  | d + 1, m, lo, hi, t => WK (WF order d (minOf order d)) lo hi t.1 t.2 ∧ t.2.length ≤ order ∧ m ≤ t.2.length

section
variable {α : Type} {P : Option ByteArray → Option ByteArray → α → Prop} {toL : α → List S59}

theorem WK_length : ∀ {lo hi : Option ByteArray} {ks : List ByteArray} {cs : List α}, WK P lo hi ks cs → cs.length = ks.length + 1
  | _, _, [], [_], _ => rfl
  | _, _, [], [], h => h.elim
  | _, _, [], _ :: _ :: _, h => h.elim
  | _, _, _ :: _, [], h => h.elim
  | _, _, k :: ks, c :: cs, h => by rw [List.length_cons, WK_length h.2, List.length_cons]

theorem WK_mem : ∀ {lo hi : Option ByteArray} {ks : List ByteArray} {cs : List α}, WK P lo hi ks cs → ∀ c ∈ cs, ∃ l u, P l u c
  | lo, hi, [], [c], h => fun x hx => by rw [List.mem_singleton.1 hx]; exact ⟨_, _, h⟩
  | _, _, [], [], h => h.elim
  | _, _, [], _ :: _ :: _, h => h.elim
  | _, _, _ :: _, [], h => h.elim
  | lo, hi, k :: ks, c :: cs, h => fun x hx => by
    rcases List.mem_cons.1 hx with rfl | hx
    · exact ⟨_, _, h.1⟩
    · exact WK_mem h.2 x hx

variable (hP : ∀ lo hi c, P lo hi c → (∀ x ∈ toL c, inR lo hi x.f0) ∧ toL c ≠ [])
include hP

theorem P_lt {lo hi : Option ByteArray} {c : α} (h : P lo hi c) : ltB lo hi := by
  obtain ⟨h1, h2⟩ := hP lo hi c h
  obtain ⟨x, hx⟩ := List.exists_mem_of_ne_nil _ h2
  exact inR_ltB (h1 x hx)

/-- Keys rise, above lo and below hi; elements lie between. -/
theorem WK_facts : ∀ {lo hi : Option ByteArray} {ks : List ByteArray} {cs : List α}, WK P lo hi ks cs →
    SortedK ks ∧ (∀ k ∈ ks, (∀ l, lo = some l → blt l k = true) ∧ (∀ u, hi = some u → blt k u = true)) ∧ (∀ c ∈ cs, ∀ x ∈ toL c, inR lo hi x.f0) ∧ ltB lo hi
  | lo, hi, [], [c], h => ⟨List.Pairwise.nil, fun k hk => by simp at hk, fun x hx => by rw [List.mem_singleton.1 hx]; exact (hP _ _ _ h).1, P_lt hP h⟩
  | _, _, [], [], h => h.elim
  | _, _, [], _ :: _ :: _, h => h.elim
  | _, _, _ :: _, [], h => h.elim
  | lo, hi, k :: ks, c :: cs, ⟨h1, h2⟩ => by
    obtain ⟨a1, a2, a3, a4⟩ := WK_facts h2
    have hk := P_lt hP h1
    refine ⟨List.pairwise_cons.2 ⟨fun x hx => (a2 x hx).1 k rfl, a1⟩, ?_, ?_, ?_⟩
    · intro x hx
      rcases List.mem_cons.1 hx with rfl | hx
      · exact ⟨fun l e => hk l x e rfl, fun u e => a4 x u rfl e⟩
      · exact ⟨fun l e => blt_trans (hk l k e rfl) ((a2 x hx).1 k rfl), (a2 x hx).2⟩
    · intro x hx y hy
      rcases List.mem_cons.1 hx with rfl | hx
      · have := (hP _ _ _ h1).1 y hy
        exact ⟨this.1, fun u e => blt_trans (this.2 k rfl) (a4 k u rfl e)⟩
      · have := a3 x hx y hy
        refine ⟨fun l e => ?_, this.2⟩
        have h3 := this.1 k rfl
        have h4 := hk l k e rfl
        cases h5 : blt y.f0 l with
        | false => rfl
        | true => rw [blt_trans h5 h4] at h3; cases h3
    · intro l u e1 e2
      exact blt_trans (hk l k e1 rfl) (a4 k u rfl e2)

/-- The number of the keys that are not above k, key by key. -/
def kx : List ByteArray → ByteArray → Nat
  | [], _ => 0
  | k0 :: ks, k => if blt k k0 then 0 else kx ks k + 1

omit hP in
theorem kx_eq : ∀ {ks : List ByteArray} {k : ByteArray}, SortedK ks → kidIx ks k = kx ks k
  | [], k, _ => by
    unfold kidIx kx rank has
    simp
  | k0 :: ks, k, hs => by
    have hs' : SortedK ks := (List.pairwise_cons.1 hs).2
    have ih := kx_eq (k := k) hs'
    unfold kx
    by_cases h : blt k k0 = true
    · rw [if_pos h]
      have h1 : rank (k0 :: ks) k = 0 := rank_cons_ge hs (blt_asymm h)
      unfold kidIx
      rw [h1]
      have : has (k0 :: ks) k = false := by
        unfold has
        rw [h1]
        apply decide_eq_false
        intro e
        have e : k0 = k := by simpa using e
        rw [e, blt_irrefl] at h
        cases h
      rw [this]
      rfl
    · rw [if_neg h, ← ih]
      have h := Bool.eq_false_iff.2 h
      by_cases h2 : blt k0 k = true
      · unfold kidIx
        have e1 : rank (k0 :: ks) k = rank ks k + 1 := rank_cons_lt h2
        have e2 : has (k0 :: ks) k = has ks k := by
          unfold has
          rw [e1]
          simp
        rw [e1, e2]
        omega
      · obtain rfl := blt_tri h (Bool.eq_false_iff.2 h2)
        unfold kidIx
        have e1 : rank (k :: ks) k = 0 := rank_cons_ge hs (blt_irrefl k)
        have e2 : has (k :: ks) k = true := by unfold has; rw [e1]; simp
        have e3 : rank ks k = 0 := rank_zero fun x hx => blt_asymm ((List.pairwise_cons.1 hs).1 x hx)
        have e4 : has ks k = false := by
          unfold has
          rw [e3]
          apply decide_eq_false
          intro e
          have := (List.pairwise_cons.1 hs).1 k (List.mem_of_getElem? e)
          rw [blt_irrefl] at this
          cases this
        rw [e1, e2, e3, e4]
        simp

/-- Where a key lies: the kid, what is left and right of it, and what may stand in its place. -/
theorem focus {hi : Option ByteArray} {k : ByteArray} : ∀ {ks : List ByteArray} {cs : List α} {lo : Option ByteArray}, WK P lo hi ks cs → inR lo hi k →
    ∃ c l u, cs[kx ks k]? = some c ∧ P l u c ∧ inR l u k ∧ (∀ x ∈ (cs.take (kx ks k)).flatMap toL, blt x.f0 k = true) ∧ (∀ x ∈ (cs.drop (kx ks k + 1)).flatMap toL, blt k x.f0 = true) ∧
      (∀ c', P l u c' → WK P lo hi ks (cs.set (kx ks k) c')) ∧
      (∀ c1 m c2, P l (some m) c1 → P (some m) u c2 → WK P lo hi (ks.take (kx ks k) ++ m :: ks.drop (kx ks k)) ((cs.set (kx ks k) c1).take (kx ks k + 1) ++ c2 :: (cs.set (kx ks k) c1).drop (kx ks k + 1)))
  | [], [c], lo, h, hk => ⟨c, lo, hi, rfl, h, hk, by simp [kx], by simp [kx], fun c' h' => h', fun c1 m c2 h1 h2 => ⟨h1, h2⟩⟩
  | [], [], _, h, _ => h.elim
  | [], _ :: _ :: _, _, h, _ => h.elim
  | _ :: _, [], _, h, _ => h.elim
  | k0 :: ks, c :: cs, lo, ⟨h1, h2⟩, hk => by
    unfold kx
    by_cases hb : blt k k0 = true
    · rw [if_pos hb]
      refine ⟨c, lo, some k0, rfl, h1, ⟨hk.1, fun u e => by cases e; exact hb⟩, by simp, ?_, fun c' h' => ⟨h', h2⟩, fun c1 m c2 a1 a2 => ⟨a1, a2, h2⟩⟩
      intro x hx
      obtain ⟨c', hc', hx⟩ := List.mem_flatMap.1 hx
      have := (WK_facts hP h2).2.2.1 c' (by simpa using hc') x hx
      exact blt_le hb (this.1 k0 rfl)
    · rw [if_neg hb]
      have hb' := Bool.eq_false_iff.2 hb
      obtain ⟨c', l, u, e1, e2, e3, e4, e5, e6, e7⟩ := focus h2 ⟨fun l e => by cases e; exact hb', hk.2⟩
      refine ⟨c', l, u, by simpa using e1, e2, e3, ?_, by simpa using e5, fun c'' h' => ⟨h1, e6 c'' h'⟩, fun c1 m c2 a1 a2 => ⟨h1, e7 c1 m c2 a1 a2⟩⟩
      intro x hx
      rw [List.take_succ_cons, List.flatMap_cons] at hx
      rcases List.mem_append.1 hx with hx | hx
      · exact blt_le (((hP _ _ _ h1).1 x hx).2 k0 rfl) hb'
      · exact e4 x hx
end

end Go.Proofs.Ytjabcdfbncglnaa
namespace Go.Proofs.Ytjabcdfbncglnaa
open Go.RowKit Go.Proofs.YtjabcdfbncglnaaW.PrintWords Go.Proofs.YtjabcdfbncglnaaW.PrintLast Go.Proofs.YtjabcdfbncglnaaW.PrintMore
open PTreeRanks (S59 k59 z59)
set_option linter.unusedVariables false
set_option linter.unusedSimpArgs false

/-- The list with a key's number. -/
def insL (l : List S59) (k : ByteArray) (x : Int) : List S59 :=
  l.take (rank (keysOf l) k) ++ ⟨k, x⟩ :: l.drop (rank (keysOf l) k + if has (keysOf l) k then 1 else 0)

theorem keysOf_append (a b : List S59) : keysOf (a ++ b) = keysOf a ++ keysOf b := List.map_append
theorem keysOf_length (a : List S59) : (keysOf a).length = a.length := List.length_map _

theorem insL_mid {A M C : List S59} {k : ByteArray} (x : Int) (hA : ∀ y ∈ A, blt y.f0 k = true) (hC : ∀ y ∈ C, blt k y.f0 = true) : insL (A ++ M ++ C) k x = A ++ insL M k x ++ C := by
  have r1 : rank (keysOf A) k = A.length := by
    rw [← keysOf_length]
    exact rank_all fun y hy => by obtain ⟨z, hz, rfl⟩ := List.mem_map.1 hy; exact hA z hz
  have r2 : rank (keysOf C) k = 0 := rank_zero fun y hy => by obtain ⟨z, hz, rfl⟩ := List.mem_map.1 hy; exact blt_asymm (hC z hz)
  have r3 : rank (keysOf (A ++ M ++ C)) k = A.length + rank (keysOf M) k := by rw [keysOf_append, keysOf_append, rank_append, rank_append, r1, r2, Nat.add_zero]
  have r4 : has (keysOf (A ++ M ++ C)) k = has (keysOf M) k := by
    unfold has
    rw [r3, keysOf_append, keysOf_append, List.append_assoc, List.getElem?_append_right (by rw [keysOf_length]; omega), keysOf_length, Nat.add_sub_cancel_left]
    have hr := rank_le (keysOf M) k
    rcases Nat.lt_or_ge (rank (keysOf M) k) (keysOf M).length with h | h
    · rw [List.getElem?_append_left h]
    · rw [List.getElem?_append_right h, List.getElem?_eq_none h]
      have e : rank (keysOf M) k - (keysOf M).length = 0 := by omega
      rw [e]
      cases hC0 : C with
      | nil => rfl
      | cons c C' =>
        have := hC c (by rw [hC0]; exact List.mem_cons_self)
        have hne : c.f0 ≠ k := fun e => by rw [e, blt_irrefl] at this; cases this
        have h1 : decide (some c.f0 = some k) = false := decide_eq_false (by intro e; exact hne (by injection e))
        have h2 : decide ((none : Option ByteArray) = some k) = false := rfl
        exact h1.trans h2.symm
  have hle : rank (keysOf M) k + (if has (keysOf M) k = true then 1 else 0) ≤ M.length := by
    rw [← keysOf_length]
    split
    · exact has_lt ‹_›
    · exact rank_le _ _
  have hle2 : rank (keysOf M) k ≤ M.length := by omega
  unfold insL
  rw [r3, r4, Nat.add_assoc]
  generalize rank (keysOf M) k + (if has (keysOf M) k = true then 1 else 0) = q at *
  generalize rank (keysOf M) k = p at *
  rw [List.append_assoc A M C, List.take_length_add_append, List.drop_length_add_append, List.take_append_of_le_length hle2, List.drop_append_of_le_length hle]
  simp [List.append_assoc]

theorem toList_inner (d : Nat) (ks : List ByteArray) (cs : List (T d)) : toList (d + 1) ((ks, cs) : List ByteArray × List (T d)) = cs.flatMap (toList d) := rfl

theorem WF_zero {order m : Nat} {lo hi : Option ByteArray} {l : List S59} : WF order 0 m lo hi l ↔ SortedK (keysOf l) ∧ (∀ x ∈ keysOf l, inR lo hi x) ∧ l.length + 1 ≤ order ∧ m ≤ l.length := Iff.rfl
theorem WF_succ {order d m : Nat} {lo hi : Option ByteArray} {ks : List ByteArray} {cs : List (T d)} : WF order (d + 1) m lo hi ((ks, cs) : List ByteArray × List (T d)) ↔ WK (WF order d (minOf order d)) lo hi ks cs ∧ cs.length ≤ order ∧ m ≤ cs.length := Iff.rfl

theorem WF_P {order : Nat} (ho : 3 ≤ order) : ∀ (d : Nat) (lo hi : Option ByteArray) (t : T d), WF order d (minOf order d) lo hi t → (∀ x ∈ toList d t, inR lo hi x.f0) ∧ toList d t ≠ []
  | 0, lo, hi, l, h => by
    obtain ⟨l, rfl⟩ : ∃ l' : List S59, l' = l := ⟨l, rfl⟩
    obtain ⟨_, h2, _, h4⟩ := WF_zero.1 h
    refine ⟨fun x hx => h2 _ (List.mem_map_of_mem hx), fun e => ?_⟩
    have e : l = [] := e
    rw [e] at h4
    have : order / 2 ≤ 0 := h4
    omega
  | d + 1, lo, hi, (ks, cs), h => by
    obtain ⟨h1, h2, h3⟩ := WF_succ.1 h
    obtain ⟨_, _, a3, _⟩ := WK_facts (WF_P ho d) h1
    refine ⟨fun x hx => ?_, fun e => ?_⟩
    · obtain ⟨c, hc, hx⟩ := List.mem_flatMap.1 hx
      exact a3 c hc x hx
    · have hl : (order + 1) / 2 ≤ cs.length := h3
      cases cs with
      | nil => rw [List.length_nil] at hl; omega
      | cons c cs =>
        obtain ⟨l, u, hc⟩ := WK_mem h1 c List.mem_cons_self
        have := (WF_P ho d l u c hc).2
        have e2 : (c :: cs).flatMap (toList d) = [] := e
        rw [List.flatMap_cons, List.append_eq_nil_iff] at e2
        exact this e2.1

theorem WF_range {order : Nat} (ho : 3 ≤ order) : ∀ {d m : Nat} {lo hi : Option ByteArray} {t : T d}, WF order d m lo hi t → ∀ x ∈ toList d t, inR lo hi x.f0
  | 0, m, lo, hi, l, h => fun x hx => (WF_zero.1 h).2.1 _ (List.mem_map_of_mem hx)
  | d + 1, m, lo, hi, (ks, cs), h => fun x hx => by
    obtain ⟨c, hc, hx⟩ := List.mem_flatMap.1 hx
    exact (WK_facts (WF_P ho d) (WF_succ.1 h).1).2.2.1 c hc x hx

theorem keysOf_flatMap {α : Type} (f : α → List S59) (cs : List α) : keysOf (cs.flatMap f) = cs.flatMap fun c => keysOf (f c) := by
  unfold keysOf
  rw [List.map_flatMap]

theorem WK_sorted {α : Type} {P : Option ByteArray → Option ByteArray → α → Prop} {toL : α → List S59} (hP : ∀ lo hi c, P lo hi c → (∀ x ∈ toL c, inR lo hi x.f0) ∧ toL c ≠ []) (hS : ∀ lo hi c, P lo hi c → SortedK (keysOf (toL c))) :
    ∀ {lo hi : Option ByteArray} {ks : List ByteArray} {cs : List α}, WK P lo hi ks cs → SortedK (keysOf (cs.flatMap toL))
  | lo, hi, [], [c], h => by
    rw [List.flatMap_cons, List.flatMap_nil, List.append_nil]
    exact hS _ _ _ h
  | _, _, [], [], h => h.elim
  | _, _, [], _ :: _ :: _, h => h.elim
  | _, _, _ :: _, [], h => h.elim
  | lo, hi, k :: ks, c :: cs, ⟨h1, h2⟩ => by
    rw [List.flatMap_cons, keysOf_append]
    refine List.pairwise_append.2 ⟨hS _ _ _ h1, WK_sorted hP hS h2, ?_⟩
    intro a ha b hb
    obtain ⟨x, hx, rfl⟩ := List.mem_map.1 ha
    obtain ⟨y, hy, rfl⟩ := List.mem_map.1 hb
    obtain ⟨c', hc', hy⟩ := List.mem_flatMap.1 hy
    exact blt_le (((hP _ _ _ h1).1 x hx).2 k rfl) (((WK_facts hP h2).2.2.1 c' hc' y hy).1 k rfl)

theorem WF_sorted {order : Nat} (ho : 3 ≤ order) : ∀ {d m : Nat} {lo hi : Option ByteArray} {t : T d}, WF order d m lo hi t → SortedK (keysOf (toList d t))
  | 0, m, lo, hi, l, h => (WF_zero.1 h).1
  | d + 1, m, lo, hi, (ks, cs), h => WK_sorted (WF_P ho d) (fun _ _ _ h => WF_sorted ho h) (WF_succ.1 h).1

/-- What a put leaves. -/
def PutWF (order d m : Nat) (lo hi : Option ByteArray) (L : List S59) (s : T d × Option (ByteArray × T d)) : Prop :=
  match s with
  | (l, none) => WF order d m lo hi l ∧ toList d l = L
  | (l, some (mid, r)) => WF order d (minOf order d) lo (some mid) l ∧ WF order d (minOf order d) (some mid) hi r ∧ toList d l ++ toList d r = L

theorem sorted_take {l : List ByteArray} (h : SortedK l) (n : Nat) : SortedK (l.take n) := List.Pairwise.sublist (List.take_sublist n l) h
theorem sorted_drop {l : List ByteArray} (h : SortedK l) (n : Nat) : SortedK (l.drop n) := List.Pairwise.sublist (List.drop_sublist n l) h

theorem halveLeafT_WF {order m : Nat} (ho : 3 ≤ order) {lo hi : Option ByteArray} {l : List S59} (hs : SortedK (keysOf l)) (hr : ∀ x ∈ keysOf l, inR lo hi x) (hm : m ≤ l.length) (hl : l.length ≤ 2 * order - 2) :
    PutWF order 0 m lo hi l (halveLeafT order l) := by
  unfold halveLeafT
  by_cases h : l.length < order
  · rw [if_pos h]
    exact ⟨WF_zero.2 ⟨hs, hr, h, hm⟩, rfl⟩
  · rw [if_neg h]
    have hlt : l.length / 2 < l.length := by omega
    have hmid : (l.getD (l.length / 2) z59).f0 = (keysOf l)[l.length / 2]'(by rw [keysOf_length]; exact hlt) := by
      rw [List.getD_eq_getElem?_getD, List.getElem?_eq_getElem hlt]
      unfold keysOf
      rw [List.getElem_map]
      rfl
    have hsm : ∀ i (hi : i < (keysOf l).length), i < l.length / 2 → blt (keysOf l)[i] ((keysOf l)[l.length / 2]'(by rw [keysOf_length]; exact hlt)) = true := fun i hi hlt2 => List.pairwise_iff_getElem.1 hs i _ hi _ hlt2
    have hsg : ∀ i (hi : i < (keysOf l).length), l.length / 2 ≤ i → blt (keysOf l)[i] ((keysOf l)[l.length / 2]'(by rw [keysOf_length]; exact hlt)) = false := fun i hi hge => by
      rcases Nat.lt_or_ge (l.length / 2) i with h | h
      · exact blt_asymm (List.pairwise_iff_getElem.1 hs _ i _ hi h)
      · have : i = l.length / 2 := by omega
        subst this
        exact blt_irrefl _
    have et : keysOf (l.take (l.length / 2)) = (keysOf l).take (l.length / 2) := List.map_take
    have ed : keysOf (l.drop (l.length / 2)) = (keysOf l).drop (l.length / 2) := List.map_drop
    refine ⟨WF_zero.2 ⟨by rw [et]; exact sorted_take hs _, ?_, ?_, ?_⟩, WF_zero.2 ⟨by rw [ed]; exact sorted_drop hs _, ?_, ?_, ?_⟩, List.take_append_drop _ _⟩
    · intro x hx
      rw [et] at hx
      obtain ⟨i, hi, rfl⟩ := List.getElem_of_mem hx
      rw [List.getElem_take]
      rw [List.length_take] at hi
      exact ⟨(hr _ (List.getElem_mem _)).1, fun u e => by cases e; rw [hmid]; exact hsm i (by omega) (by omega)⟩
    · rw [List.length_take]; omega
    · rw [List.length_take]; show order / 2 ≤ _; omega
    · intro x hx
      rw [ed] at hx
      obtain ⟨i, hi, rfl⟩ := List.getElem_of_mem hx
      rw [List.getElem_drop]
      rw [List.length_drop] at hi
      exact ⟨fun u e => by cases e; rw [hmid]; exact hsg _ (by omega) (by omega), (hr _ (List.getElem_mem _)).2⟩
    · rw [List.length_drop]; omega
    · rw [List.length_drop]; show order / 2 ≤ _; omega

end Go.Proofs.Ytjabcdfbncglnaa
