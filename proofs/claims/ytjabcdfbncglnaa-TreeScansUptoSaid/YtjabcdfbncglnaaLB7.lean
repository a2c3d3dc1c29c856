/- WHAT IS PROVED: slices.Delete of one element of a row of one's own (node), and a list without one. slices.Concat of rows (node) makes a row of its own with their elements one behind the other. -/
import Derived.Test.YtjabcdfbncglnaaLB2
import Derived.Lib.SliceRun
import Derived.Deep.RegionLaw
import Derived.Test.YtjabcdfbncglnaaLB5
namespace Go.Proofs.Ytjabcdfbncglnaa
open Go.RowKit Go.Proofs.YtjabcdfbncglnaaW.PrintWords Go.Proofs.YtjabcdfbncglnaaW.PrintLast Go.Proofs.YtjabcdfbncglnaaW.PrintMore
set_option linter.unusedVariables false
set_option linter.unusedSimpArgs false

theorem zv_node (w : World) : (zeroValue 69).run Try.prog w = .ok .nilIface w := by kernel_rfl

set_option maxHeartbeats 4000000 in
set_option maxRecDepth 100000 in
/-- slices.Delete of element i of a row of one's own. -/
theorem delete_node (base g n cap i : Nat) (cur : List Value) (w : World) (hb : base ≤ g) (hh : w.heap[g]? = some (.cells cur.toArray 69 (0, 0))) (hnc : n ≤ cap) (hcm : cap ≤ 9223372036854775807) (hcl : cur.length = cap) (hi : i < n) (h1 : ∀ u ∈ cur.take n, u.oneCell' = true) :
    Calls Try.prog 80 #[.slice (some ⟨g, 0, none⟩) n cap, .int .i64 i, .int .i64 ((i : Nat) + 1 : Int)] w fun e w' => e = .returned (.slice (some ⟨g, 0, none⟩) (n - 1) cap) ∧ w'.ownsRow base 69 1 (.slice (some ⟨g, 0, none⟩) (n - 1) cap) (n - 1) ((cur.take n).eraseIdx i) ∧ w.grownBy w' (some g) := by
  have t22 := Try.underlying79
  obtain ⟨i0, hi0, hz0, hz1, hz2⟩ := info_parts info69s
  obtain ⟨news, hnews⟩ : ∃ news, news = (cur.take n).drop (i + 1) := ⟨_, rfl⟩
  have hlen : news.length = n - (i + 1) := by rw [hnews, List.length_drop, List.length_take]; omega
  have hcell : ∀ j, w.drew.cell? ⟨g, j, none⟩ = cur[j]? := fun j => by
    have h0 : w.drew.heap[g]? = some (.cells cur.toArray 69 (0, 0)) := hh
    rw [blk_cell h0]
    simp
  obtain ⟨A, hA, hsrc⟩ : ∃ A : Addr, (if cap = i + 1 then some (⟨g, 0, none⟩ : Addr) else some ⟨g, i + 1, none⟩) = some A ∧ Aside0 (∀ t u, news[t]? = some u → w.drew.cell? (A.add t) = some u) := by
    by_cases h : cap = i + 1
    · refine ⟨⟨g, 0, none⟩, by simp [h], ⟨fun t u hu => ?_⟩⟩
      have h0 : news.length = 0 := by rw [hlen]; omega
      rw [List.length_eq_zero_iff.1 h0] at hu
      simp at hu
    · refine ⟨⟨g, i + 1, none⟩, by simp [h], ⟨fun t u hu => ?_⟩⟩
      rw [Addr.add_lit, hcell, ← hu, hnews, List.getElem?_drop, List.getElem?_take]
      have ht := (List.getElem?_eq_some_iff.1 hu).1
      rw [if_pos (by omega)]
  have s1 : Aside0 (news.length = (n - (i + 1)) * 1) := ⟨by rw [Nat.mul_one]; exact hlen⟩
  have s2 : Aside0 (∀ u ∈ news, u.oneCell' = true) := ⟨fun u hu => by
    rw [hnews] at hu
    exact h1 u (List.mem_of_mem_drop hu)⟩
  have s3 : Aside0 (∀ t, t < news.length → (w.drew.cell? ⟨g, 0 + i * 1 + t, none⟩).isSome = true ∧ w.drew.frozen? ⟨g, 0 + i * 1 + t, none⟩ = false) := ⟨fun t ht => by
    have h0 : w.drew.heap[g]? = some (.cells cur.toArray 69 (0, 0)) := hh
    refine ⟨?_, blk_frozen h0 _⟩
    rw [hcell, List.getElem?_eq_getElem (by omega)]
    rfl⟩
  obtain ⟨W1, hW1⟩ : ∃ W1, W1 = w.drew.setCells g (0 + i * 1) news := ⟨_, rfl⟩
  obtain ⟨cur1, k1, k2, k3⟩ := setCells_row news (0 + i * 1) w.drew cur.toArray hh (by rw [List.size_toArray]; omega)
  obtain ⟨r1, r2, r3, r4⟩ := setCells_same g news (0 + i * 1) w.drew
  have hfar : ∀ k', k' ≠ g → (w.drew.setCells g (0 + i * 1) news).heap[k']? = w.heap[k']? := fun k' hk' => setCells_far news _ k' hk'
  rw [← hW1] at k1 r1 r2 r3 r4 hfar
  have hcs1 : cur1.size = cap := by rw [k2, List.size_toArray, hcl]
  have hrep : List.replicate (n - (n - 1)) (.nilIface : Value) = [.nilIface] := by rw [show n - (n - 1) = 1 by omega]; rfl
  have hclr : ∀ ty, (Builtin.clear_ #[79] ty #[.slice (some ⟨g, n - 1, none⟩) (n - (n - 1)) (cap - (n - 1))]).run Try.prog W1 = .ok (.tuple #[]) (W1.setCell ⟨g, n - 1, none⟩ .nilIface) := fun ty => by
    have := Lib.run_clear_slice (P := Try.prog) W1 79 69 ty .nilIface t22 zv_node rfl rfl g (n - 1) (n - (n - 1)) (cap - (n - 1)) (by omega) (fun j hj => by rw [blk_cell k1, Array.getElem?_eq_getElem (by omega)]; rfl) (fun j hj => blk_frozen k1 _)
    rw [hrep] at this
    exact this
  have hfin : Aside0 ((W1.setCell ⟨g, n - 1, none⟩ .nilIface).ownsRow base 69 1 (.slice (some ⟨g, 0, none⟩) (n - 1) cap) (n - 1) ((cur.take n).eraseIdx i) ∧ w.grownBy (W1.setCell ⟨g, n - 1, none⟩ .nilIface) (some g)) := by
    refine ⟨⟨by rw [List.length_eraseIdx_of_lt (by rw [List.length_take]; omega), List.length_take]; omega, .inr ⟨g, cap, _, rfl, hb, blk_set k1 (n - 1) .nilIface, by omega, hcm, by rw [Array.size_setIfInBounds]; omega, ?_⟩⟩, ?_⟩
    · rw [Array.toList_setIfInBounds, List.take_set_of_le (by omega), k3, Nat.mul_one, List.eraseIdx_eq_take_drop_succ, ← hnews, List.take_take, Nat.min_eq_left (by omega)]
      simp only [List.toList_toArray, Nat.zero_add, Nat.mul_one]
      rw [List.take_left' (by rw [List.length_append, List.length_take, hlen]; omega)]
    · have hg1 : w.grownBy W1 (some g) := ⟨r1, r2, r3, by rw [r4]; exact Nat.le_refl _, fun k' _ hk' => hfar k' (fun he => hk' (by rw [he]))⟩
      exact gb_set hg1 _ _
  have hW : Aside0 (W1 = w.drew.setCells g (0 + i * 1) news) := ⟨hW1⟩
  have hic : i ≤ cap := by omega
  have hjc : i + 1 ≤ cap := by omega
  have hjn : i + 1 ≤ n := by omega
  have e1 : ((((i : Nat) : Int)) == ((i : Nat) : Int) + 1) = false := by
    apply Bool.eq_false_iff.2
    intro e
    have e : ((i : Nat) : Int) = ((i : Nat) : Int) + 1 := by simpa using e
    omega
  have q0 : ((0 : Int) ≤ ((i : Nat) : Int) + 1) = True := eq_true (by omega)
  have q1 : (((i : Nat) : Int) + 1 ≤ ((n : Nat) : Int)) = True := eq_true (by omega)
  have hn1 : n - 1 ≤ n := by omega
  have en : Aside0 (i + (n - (i + 1)) = n - 1) := ⟨by omega⟩
  clear hW1 hlen hcell hh k1 k2 k3 r1 r2 r3 r4 hfar hcs1 hrep h1 hcl hnews
  go_enter Try.func80, Try.ntmps80
  go_wp2_with fail
  go_region_law (refine step_append_room rfl (.tmp 22) (.tmp 25) 79 rfl 69 i0 1 t22 hi0 hz1 g 0 i cap (by simp [Act.eval, Act.put]) A (n - (i + 1)) (cap - (i + 1)) news (by simp [Act.eval, Act.put]) s1.out hsrc.out s2.out (by omega) s3.out ?_; rw [← hW.out, en.out])
  go_wp2
  go_ret
  exact ⟨rfl, hfin.out.1, hfin.out.2⟩

end Go.Proofs.Ytjabcdfbncglnaa
namespace Go.Proofs.Ytjabcdfbncglnaa
open Go.RowKit Go.Proofs.YtjabcdfbncglnaaW.PrintWords Go.Proofs.YtjabcdfbncglnaaW.PrintLast Go.Proofs.YtjabcdfbncglnaaW.PrintMore
set_option linter.unusedVariables false
set_option linter.unusedSimpArgs false


set_option maxHeartbeats 2000000 in
set_option maxRecDepth 100000 in
/-- slices.Grow of nothing. -/
theorem grow_node (n : Nat) (w : World) (hn : n ≤ 8589934592) :
    Calls Try.prog 95 #[.slice none 0 0, .int .i64 n] w fun e w' => ∃ v', e = .returned v' ∧ w'.ownsRow w.heap.size 69 1 v' 0 [] ∧ Below w.heap.size w w' := by
  obtain ⟨i0, hi0, hz0, hz1, hz2⟩ := info_parts info69s
  have b0 : decide (((n : Nat) : Int) < 0) = false := decide_eq_false (by omega)
  by_cases h0 : n = 0
  · subst h0
    go_enter Try.func95, Try.ntmps95
    go_wp2
    go_ret
    exact ⟨_, rfl, World.ownsRow_nil _ _ _ _, Below.refl _ _⟩
  · have b1 : decide ((0 : Int) < ((n : Nat) : Int)) = true := decide_eq_true (by omega)
    have b1n : decide (0 < n) = true := decide_eq_true (by omega)
    have hzb : i0.bytes = 16 := hz2
    have hrz : ∀ ty, (Builtin.append_ #[79, 3] ty #[.slice none 0 0, .int .i64 ((n : Nat) : Int)]).run Try.prog w =
        .ok (.slice (some ⟨w.heap.size, 0, none⟩) n (grownCap w n 0 69)) (w.drew.alloc (.cells (([] : List Value).toArray ++ Builtin.zeroCells (.nilIface : Value).cells n ++ Builtin.zeroCells (.nilIface : Value).cells (grownCap w n 0 69 - n)) 69)) := fun ty => by
      have h := Lib.run_append_grow_zeros (P := Try.prog) w 79 3 ty 69 i0 _ .i64 .i64 Try.underlying79 Try.underlying3 hi0 hz0 none 0 0 ([] : List Value) (by simp [Builtin.firstCells]) n (by omega) (by omega) (by omega) (by omega) (by rw [hzb]; omega) (by rw [hzb, Nat.zero_add]; exact growslice_fits (by omega) (by omega))
      rw [Nat.zero_add] at h
      exact h
    have hGn : n ≤ grownCap w n 0 69 := grownCap_ge w _ _ _
    have hG63 : grownCap w n 0 69 ≤ maxLen := grownCap_le_maxLen w n 0 69 (by unfold maxLen; omega)
    have hzs : (.nilIface : Value).cells.size = 1 := rfl
    generalize grownCap w n 0 69 = G at *
    have hsz : (([] : List Value).toArray ++ Builtin.zeroCells (.nilIface : Value).cells n ++ Builtin.zeroCells (.nilIface : Value).cells (G - n)).size = G := by
      simp [Builtin.zeroCells, hzs]
      omega
    generalize ([] : List Value).toArray ++ Builtin.zeroCells (.nilIface : Value).cells n ++ Builtin.zeroCells (.nilIface : Value).cells (G - n) = ZZ at *
    have HO : Aside0 ((w.drew.alloc (.cells ZZ 69)).ownsRow w.heap.size 69 1 (.slice (some ⟨w.heap.size, 0, none⟩) 0 G) 0 []) := ⟨⟨rfl, .inr ⟨w.heap.size, G, ZZ, rfl, Nat.le_refl _, heap_alloc_new w.drew _, Nat.zero_le _, hG63, by omega, by simp⟩⟩⟩
    have HB : Aside0 (Below w.heap.size w (w.drew.alloc (.cells ZZ 69))) := ⟨below_mk (below_drew (Below.refl _ _)) _⟩
    have hGm : G ≤ 9223372036854775807 := by unfold maxLen at hG63; omega
    clear hG63 hsz hzs hzb
    have HR := Aside0.mk hrz
    clear hrz
    go_enter Try.func95, Try.ntmps95
    go_wp2_with ((with_reducible refine gate_builtin (b := .append) (xs := #[.tmp 20, .tmp 21]) rfl ?_); at_builtin; refine wpList_append_run rfl (.tmp 20) (.tmp 21) _ rfl _ _ rfl rfl _ _ HR.out ?_)
    go_ret
    exact ⟨_, rfl, HO.out, HB.out⟩

set_option maxHeartbeats 4000000 in
set_option maxRecDepth 100000 in
/-- slices.Concat. -/
theorem concat_node (vb : Nat) (rows : List (Option Addr × Nat × List Value)) (w : World) (hcell : ∀ k (h : k < rows.length), w.cell? ⟨vb, k, none⟩ = some (.slice rows[k].1 rows[k].2.2.length rows[k].2.1))
    (hrow : ∀ r ∈ rows, (0 < r.2.2.length → ∃ ad, r.1 = some ad ∧ ∀ j u, r.2.2[j]? = some u → w.cell? (ad.add j) = some u) ∧ ∀ u ∈ r.2.2, u.oneCell' = true) (hm : rows.length ≤ 8) (hbig : (rows.map fun r => r.2.2.length).sum ≤ 8589934592) :
    Calls Try.prog 89 #[.slice (some ⟨vb, 0, none⟩) rows.length rows.length] w fun e w' => ∃ v', e = .returned v' ∧ w'.ownsRow w.heap.size 69 1 v' (rows.flatMap fun r => r.2.2).length (rows.flatMap fun r => r.2.2) ∧ Below w.heap.size w w' := by
  rw [← lenK_all] at hbig
  have HCELL := Aside0.mk hcell
  have HROW := Aside0.mk hrow
  clear hcell hrow
  have hpos : ∀ k, k ≤ rows.length → lenK rows k ≤ 8589934592 := fun k hk => by
    have := lenK_le (rows := rows) (rows.length - k) k
    rw [show k + (rows.length - k) = rows.length by omega] at this
    omega
  have HPOS := Aside0.mk hpos
  clear hpos
  go_enter Try.func89, Try.ntmps89
  go_wp2
  go_loop [3, 11] (fun v3 v11 => ∃ k : Nat, v11 = .int .i64 k ∧ v3 = .int .i64 (lenK rows k : Nat) ∧ k ≤ rows.length) (fun _ v11 => rows.length - (RowKit.intOf v11).toNat)
  case atStart => exact ⟨0, rfl, rfl, Nat.zero_le _⟩
  case round =>
    obtain ⟨k, rfl, rfl, hk⟩ := hrel
    have hl1 := HPOS.out k hk
    by_cases hlt : k < rows.length
    · have b1 : decide (((k : Nat) : Int) < ((rows.length : Nat) : Int)) = true := decide_eq_true (by omega)
      have p0 : ((0 : Int) ≤ ((k : Nat) : Int)) = True := eq_true (by omega)
      have p1 : (((k : Nat) : Int) < ((rows.length : Nat) : Int)) = True := eq_true (by omega)
      have hc := HCELL.out k hlt
      have hl2 := HPOS.out (k + 1) hlt
      have hsc := lenK_succ hlt
      obtain ⟨nk, hnk⟩ : ∃ nk, nk = rows[k].2.2.length := ⟨_, rfl⟩
      rw [← hnk] at hc hsc
      obtain ⟨Ak, hAk⟩ : ∃ Ak, Ak = rows[k].1 := ⟨_, rfl⟩
      obtain ⟨ck, hck⟩ : ∃ ck, ck = rows[k].2.1 := ⟨_, rfl⟩
      rw [← hAk, ← hck] at hc
      clear hnk hAk hck
      obtain ⟨lk, hlk⟩ : ∃ lk, lk = lenK rows k := ⟨_, rfl⟩
      have HSC := Aside0.mk hsc
      rw [hsc] at hl2
      rw [← hlk] at hl1 hl2 ⊢
      have HLK := Aside0.mk hlk
      clear hlk hsc
      have bneg : decide (((lk : Nat) : Int) + ((nk : Nat) : Int) < 0) = false := decide_eq_false (by omega)
      go_wp2
      go_round
      case rel => exact ⟨k + 1, by go_num, by rw [HSC.out, ← HLK.out]; go_num, hlt⟩
      case measure => simp [RowKit.intOf]; omega
    · have b1 : decide (((k : Nat) : Int) < ((rows.length : Nat) : Int)) = false := decide_eq_false (by omega)
      obtain rfl : k = rows.length := by omega
      have HG := Aside0.mk (grow_node (lenK rows rows.length) w hbig)
      have hl9 := hbig
      generalize lenK rows rows.length = L at HG hl1 hl9 ⊢
      go_wp2_with fail
      refine HG.out.mono ?_
      rintro e w2 ⟨v2, rfl, ho2, hb2⟩
      have HI : Aside0 ((Kd.raw 1).R 69 w2 w.heap.size (fun _ => True) v2 (((rows.take 0).flatMap fun r => r.2.2).map fun v => [v]) ∧ Below w.heap.size w w2) := ⟨raw_of_nil ho2, hb2⟩
      clear HG ho2 hb2
      go_wp2
      go_loopw [6, 27] (fun v6 v27 W => ∃ k : Nat, v27 = .int .i64 k ∧ k ≤ rows.length ∧ Aside0 ((Kd.raw 1).R 69 W w.heap.size (fun _ => True) v6 (((rows.take k).flatMap fun r => r.2.2).map fun v => [v]) ∧ Below w.heap.size w W)) (fun _ v27 _ => rows.length - (RowKit.intOf v27).toNat)
      case atStart => exact ⟨0, rfl, Nat.zero_le _, HI⟩
      case round =>
        clear HI
        obtain ⟨k, rfl, hk, HI⟩ := hrel
        by_cases hlt : k < rows.length
        · have b2 : decide (((k : Nat) : Int) < ((rows.length : Nat) : Int)) = true := decide_eq_true (by omega)
          have p0 : ((0 : Int) ≤ ((k : Nat) : Int)) = True := eq_true (by omega)
          have p1 : (((k : Nat) : Int) < ((rows.length : Nat) : Int)) = True := eq_true (by omega)
          have hc := pw_cell_below HI.out.2 (HCELL.out k hlt)
          obtain ⟨hr1, hr2⟩ := HROW.out rows[k] (List.getElem_mem hlt)
          have hl2 := HPOS.out (k + 1) hlt
          have hsc := lenK_succ hlt
          have hfl : ((rows.take (k + 1)).flatMap fun r => r.2.2) = ((rows.take k).flatMap fun r => r.2.2) ++ rows[k].2.2 := by
            rw [List.take_succ_eq_append_getElem hlt, List.flatMap_append, List.flatMap_singleton]
          have hfk := lenK_flat rows k
          have HFL := Aside0.mk hfl
          obtain ⟨xs, hxs⟩ : ∃ xs, xs = ((rows.take k).flatMap fun r => r.2.2) := ⟨_, rfl⟩
          have HCR : Aside0 (Kd.C (Kd.raw 1) wr rows[k].1 rows[k].2.2.length (rows[k].2.2.map fun v => [v])) := ⟨C_raw rfl (by omega) (fun hp => by
            obtain ⟨ad, e, h⟩ := hr1 hp
            exact ⟨ad, e, fun j u hj => pw_cell_below HI.out.2 (h j u hj)⟩) hr2⟩
          have hlx : xs.length + rows[k].2.2.length ≤ 8589934592 := by rw [hxs, hfk]; omega
          rw [← hxs] at HI HFL
          clear hr1 hr2 hl2 hsc hfl hfk hxs
          generalize rows[k].1 = Ak at *
          generalize rows[k].2.1 = ck at *
          generalize rows[k].2.2 = ys at *
          go_wp2_with ((with_reducible refine gate_builtin (b := .append) (xs := #[.tmp 31, .tmp 32]) rfl ?_); at_builtin; refine Kd.R_append_rows (Kd.raw 1) (w0 := w) (Rr := (Kd.raw 1).K wr) w.heap.size rfl (.tmp 31) (.tmp 32) 79 69 .nilIface 16 rfl Try.underlying79 info69s rfl (by decide) (by decide) u6 (xs.map fun v => [v]) (ys.map fun v => [v]) Ak ys.length ck (fun _ => True) (fun _ => False) rfl rfl HI.out.1 HCR.out (fun _ _ h => h) (fun _ h => h.elim) (fun _ _ => trivial) HI.out.2 HI.out.2.size (by rw [List.length_map]; omega) ?_; intro v5 w5 ho5 hb5 hg5 hat5; have HO5 := Aside0.mk ho5; have HB5 := Aside0.mk hb5; clear ho5 hb5 hg5 hat5)
          go_roundw
          case measure => show rows.length - (k + 1) < rows.length - k; omega
          case rel => exact ⟨k + 1, by first | rfl | (simp; done) | (congr 1), hlt, ⟨by rw [HFL.out, List.map_append]; exact HO5.out, HB5.out⟩⟩
        · have b2 : decide (((k : Nat) : Int) < ((rows.length : Nat) : Int)) = false := decide_eq_false (by omega)
          obtain rfl : k = rows.length := by omega
          rw [List.take_length] at HI
          go_wp2
          go_ret
          exact ⟨_, rfl, raw_own HI.out.1, HI.out.2⟩
end Go.Proofs.Ytjabcdfbncglnaa
