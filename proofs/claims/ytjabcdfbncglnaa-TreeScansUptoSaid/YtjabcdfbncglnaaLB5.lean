/- WHAT IS PROVED: slices.Concat of rows (str) makes a row of its own with their elements one behind the other. slices.Delete of one element of a row of one's own (int), and a list without one. slices.Concat of rows (int) makes a row of its own with their elements one behind the other. -/
import Derived.Test.YtjabcdfbncglnaaLB4
import Derived.Test.YtjabcdfbncglnaaLB2
import Derived.Lib.SliceRun
import Derived.Deep.RegionLaw
namespace Go.Proofs.Ytjabcdfbncglnaa
open Go.RowKit Go.Proofs.YtjabcdfbncglnaaW.PrintWords Go.Proofs.YtjabcdfbncglnaaW.PrintLast Go.Proofs.YtjabcdfbncglnaaW.PrintMore
set_option linter.unusedVariables false
set_option linter.unusedSimpArgs false

/-- A row of cells that is read, as a row of raw elements. -/
theorem C_raw {w : World} {A : Option Addr} {n : Nat} {vs : List Value} (hl : vs.length = n) (hn : n ≤ 9223372036854775807) (hA : 0 < n → ∃ ad, A = some ad ∧ ∀ j u, vs[j]? = some u → w.cell? (ad.add j) = some u) (h1 : ∀ u ∈ vs, u.oneCell' = true) :
    Kd.C (Kd.raw 1) w A n (vs.map fun v => [v]) := by
  refine ⟨by rw [List.length_map]; exact hl, hn, fun hp => ?_⟩
  obtain ⟨ad, e, h⟩ := hA hp
  refine ⟨ad, e, fun j p hj => ?_⟩
  rw [List.getElem?_map] at hj
  cases hv : vs[j]? with
  | none => rw [hv] at hj; cases hj
  | some v =>
    rw [hv] at hj
    cases hj
    refine ⟨[v], rfl, ⟨rfl, rfl, fun u hu => by rw [List.mem_singleton.1 hu]; exact h1 v (List.mem_of_getElem? hv)⟩, fun i u hu => ?_⟩
    cases i with
    | zero =>
      cases hu
      have e : j * (Kd.raw 1).sz + 0 = j := by show j * 1 + 0 = j; omega
      rw [e]
      exact h j v hv
    | succ i => cases hu
theorem reps_raw_one : ∀ {vs inner : List Value}, Reps (fun (x : List Value) cs => cs = x ∧ cs.length = 1 ∧ ∀ u ∈ cs, u.oneCell' = true) 1 (vs.map fun v => [v]) inner → inner = vs := by
  intro vs inner h
  apply List.ext_getElem?
  intro j
  have hl : inner.length = vs.length := by have := h.1; rw [List.length_map, Nat.mul_one] at this; exact this
  rcases Nat.lt_or_ge j vs.length with hj | hj
  · have h2 := h.2 j [vs[j]] (by rw [List.getElem?_map, List.getElem?_eq_getElem hj]; rfl)
    have h3 := congrArg (fun l => l[0]?) h2.1
    simp only [Nat.mul_one] at h3
    rw [List.getElem?_take, if_pos (by omega), List.getElem?_drop] at h3
    rw [List.getElem?_eq_getElem hj]
    simpa using h3
  · rw [List.getElem?_eq_none (by omega), List.getElem?_eq_none hj]
theorem raw_own {e : Nat} {W : World} {base : Nat} {ok : Nat → Prop} {v : Value} {vs : List Value} (h : (Kd.raw 1).R e W base ok v (vs.map fun v => [v])) : W.ownsRow base e 1 v vs.length vs := by
  obtain ⟨_, inner, ho, hr⟩ := h
  obtain rfl := reps_raw_one hr
  rw [List.length_map] at ho
  exact ho
theorem raw_of_nil {e : Nat} {W : World} {base : Nat} {v : Value} (h : W.ownsRow base e 1 v 0 []) : (Kd.raw 1).R e W base (fun _ => True) v [] := ⟨fun _ _ => trivial, [], h, ⟨rfl, fun j p hj => by cases hj⟩⟩

/-- How long the first k rows are. -/
def lenK (rows : List (Option Addr × Nat × List Value)) (k : Nat) : Nat := ((rows.take k).map fun r => r.2.2.length).sum
theorem lenK_succ {rows : List (Option Addr × Nat × List Value)} {k : Nat} (h : k < rows.length) : lenK rows (k + 1) = lenK rows k + rows[k].2.2.length := by
  unfold lenK
  rw [List.take_succ_eq_append_getElem h, List.map_append, List.sum_append]
  simp
theorem lenK_le {rows : List (Option Addr × Nat × List Value)} : ∀ (m k : Nat), lenK rows k ≤ lenK rows (k + m)
  | 0, k => Nat.le_refl _
  | m + 1, k => by
    have ih := lenK_le (rows := rows) m k
    by_cases h : k + m < rows.length
    · have := lenK_succ h
      rw [← Nat.add_assoc]
      omega
    · have e : lenK rows (k + (m + 1)) = lenK rows (k + m) := by
        unfold lenK
        rw [List.take_of_length_le (by omega), List.take_of_length_le (by omega)]
      omega
theorem lenK_all (rows : List (Option Addr × Nat × List Value)) : lenK rows rows.length = (rows.map fun r => r.2.2.length).sum := by
  unfold lenK
  rw [List.take_length]
theorem lenK_flat (rows : List (Option Addr × Nat × List Value)) (k : Nat) : ((rows.take k).flatMap fun r => r.2.2).length = lenK rows k := by
  unfold lenK
  rw [List.length_flatMap]

theorem wpList_append_run {P : Program} {w : World} {ops : Array Oper} {rest : List Oper} {o : Oper} {a : Act} {Q : Exit → Act → World → Prop} (hgd : o.guard = none) (s x : Operand) (ts : Array TypeId) (ho : o.op = .call { callee := .builtin .append, args := #[s, x], argTypes := ts })
    (v u : Value) (hs : a.eval s = v) (hx : a.eval x = u) (r : Value) (w' : World) (hrun : ∀ ty, (Builtin.append_ ts ty #[v, u]).run P w = .ok r w') (h : wpList P ops Q rest (a.put o.dst r) w') : wpList P ops Q (o :: rest) a w := by
  refine wpList_plain hgd fun K hK => ?_
  unfold Oper.wp execOp
  simp only [ho, resolve, invoke, builtin, Sem.run_bind, Sem.run_pure, Result.andThen_ok, List.map_toArray, List.map_cons, List.map_nil, hs, hx, hrun]
  exact hK _ _ h

set_option maxHeartbeats 2000000 in
set_option maxRecDepth 100000 in
/-- slices.Grow of nothing. -/
theorem grow_str (n : Nat) (w : World) (hn : n ≤ 8589934592) :
    Calls Try.prog 93 #[.slice none 0 0, .int .i64 n] w fun e w' => ∃ v', e = .returned v' ∧ w'.ownsRow w.heap.size 9 1 v' 0 [] ∧ Below w.heap.size w w' := by
  obtain ⟨i0, hi0, hz0, hz1, hz2⟩ := info_parts info9s
  have b0 : decide (((n : Nat) : Int) < 0) = false := decide_eq_false (by omega)
  by_cases h0 : n = 0
  · subst h0
    go_enter Try.func93, Try.ntmps93
    go_wp2
    go_ret
    exact ⟨_, rfl, World.ownsRow_nil _ _ _ _, Below.refl _ _⟩
  · have b1 : decide ((0 : Int) < ((n : Nat) : Int)) = true := decide_eq_true (by omega)
    have b1n : decide (0 < n) = true := decide_eq_true (by omega)
    have hzb : i0.bytes = 16 := hz2
    have hrz : ∀ ty, (Builtin.append_ #[22, 3] ty #[.slice none 0 0, .int .i64 ((n : Nat) : Int)]).run Try.prog w =
        .ok (.slice (some ⟨w.heap.size, 0, none⟩) n (grownCap w n 0 9)) (w.drew.alloc (.cells (([] : List Value).toArray ++ Builtin.zeroCells ((.string ⟨#[]⟩) : Value).cells n ++ Builtin.zeroCells ((.string ⟨#[]⟩) : Value).cells (grownCap w n 0 9 - n)) 9)) := fun ty => by
      have h := Lib.run_append_grow_zeros (P := Try.prog) w 22 3 ty 9 i0 _ .i64 .i64 Try.underlying22 Try.underlying3 hi0 hz0 none 0 0 ([] : List Value) (by simp [Builtin.firstCells]) n (by omega) (by omega) (by omega) (by omega) (by rw [hzb]; omega) (by rw [hzb, Nat.zero_add]; exact growslice_fits (by omega) (by omega))
      rw [Nat.zero_add] at h
      exact h
    have hGn : n ≤ grownCap w n 0 9 := grownCap_ge w _ _ _
    have hG63 : grownCap w n 0 9 ≤ maxLen := grownCap_le_maxLen w n 0 9 (by unfold maxLen; omega)
    have hzs : ((.string ⟨#[]⟩) : Value).cells.size = 1 := rfl
    generalize grownCap w n 0 9 = G at *
    have hsz : (([] : List Value).toArray ++ Builtin.zeroCells ((.string ⟨#[]⟩) : Value).cells n ++ Builtin.zeroCells ((.string ⟨#[]⟩) : Value).cells (G - n)).size = G := by
      simp [Builtin.zeroCells, hzs]
      omega
    generalize ([] : List Value).toArray ++ Builtin.zeroCells ((.string ⟨#[]⟩) : Value).cells n ++ Builtin.zeroCells ((.string ⟨#[]⟩) : Value).cells (G - n) = ZZ at *
    have HO : Aside0 ((w.drew.alloc (.cells ZZ 9)).ownsRow w.heap.size 9 1 (.slice (some ⟨w.heap.size, 0, none⟩) 0 G) 0 []) := ⟨⟨rfl, .inr ⟨w.heap.size, G, ZZ, rfl, Nat.le_refl _, heap_alloc_new w.drew _, Nat.zero_le _, hG63, by omega, by simp⟩⟩⟩
    have HB : Aside0 (Below w.heap.size w (w.drew.alloc (.cells ZZ 9))) := ⟨below_mk (below_drew (Below.refl _ _)) _⟩
    have hGm : G ≤ 9223372036854775807 := by unfold maxLen at hG63; omega
    clear hG63 hsz hzs hzb
    have HR := Aside0.mk hrz
    clear hrz
    go_enter Try.func93, Try.ntmps93
    go_wp2_with ((with_reducible refine gate_builtin (b := .append) (xs := #[.tmp 20, .tmp 21]) rfl ?_); at_builtin; refine wpList_append_run rfl (.tmp 20) (.tmp 21) _ rfl _ _ rfl rfl _ _ HR.out ?_)
    go_ret
    exact ⟨_, rfl, HO.out, HB.out⟩

set_option maxHeartbeats 4000000 in
set_option maxRecDepth 100000 in
/-- slices.Concat. -/
theorem concat_str (vb : Nat) (rows : List (Option Addr × Nat × List Value)) (w : World) (hcell : ∀ k (h : k < rows.length), w.cell? ⟨vb, k, none⟩ = some (.slice rows[k].1 rows[k].2.2.length rows[k].2.1))
    (hrow : ∀ r ∈ rows, (0 < r.2.2.length → ∃ ad, r.1 = some ad ∧ ∀ j u, r.2.2[j]? = some u → w.cell? (ad.add j) = some u) ∧ ∀ u ∈ r.2.2, u.oneCell' = true) (hm : rows.length ≤ 8) (hbig : (rows.map fun r => r.2.2.length).sum ≤ 8589934592) :
    Calls Try.prog 87 #[.slice (some ⟨vb, 0, none⟩) rows.length rows.length] w fun e w' => ∃ v', e = .returned v' ∧ w'.ownsRow w.heap.size 9 1 v' (rows.flatMap fun r => r.2.2).length (rows.flatMap fun r => r.2.2) ∧ Below w.heap.size w w' := by
  rw [← lenK_all] at hbig
  have HCELL := Aside0.mk hcell
  have HROW := Aside0.mk hrow
  clear hcell hrow
  have hpos : ∀ k, k ≤ rows.length → lenK rows k ≤ 8589934592 := fun k hk => by
    have := lenK_le (rows := rows) (rows.length - k) k
    rw [show k + (rows.length - k) = rows.length by omega] at this
    omega
  have HPOS := Aside0.mk hpos
  clear hpos
  go_enter Try.func87, Try.ntmps87
  go_wp2
  go_loop [3, 11] (fun v3 v11 => ∃ k : Nat, v11 = .int .i64 k ∧ v3 = .int .i64 (lenK rows k : Nat) ∧ k ≤ rows.length) (fun _ v11 => rows.length - (RowKit.intOf v11).toNat)
  case atStart => exact ⟨0, rfl, rfl, Nat.zero_le _⟩
  case round =>
    obtain ⟨k, rfl, rfl, hk⟩ := hrel
    have hl1 := HPOS.out k hk
    by_cases hlt : k < rows.length
    · have b1 : decide (((k : Nat) : Int) < ((rows.length : Nat) : Int)) = true := decide_eq_true (by omega)
      have p0 : ((0 : Int) ≤ ((k : Nat) : Int)) = True := eq_true (by omega)
      have p1 : (((k : Nat) : Int) < ((rows.length : Nat) : Int)) = True := eq_true (by omega)
      have hc := HCELL.out k hlt
      have hl2 := HPOS.out (k + 1) hlt
      have hsc := lenK_succ hlt
      obtain ⟨nk, hnk⟩ : ∃ nk, nk = rows[k].2.2.length := ⟨_, rfl⟩
      rw [← hnk] at hc hsc
      obtain ⟨Ak, hAk⟩ : ∃ Ak, Ak = rows[k].1 := ⟨_, rfl⟩
      obtain ⟨ck, hck⟩ : ∃ ck, ck = rows[k].2.1 := ⟨_, rfl⟩
      rw [← hAk, ← hck] at hc
      clear hnk hAk hck
      obtain ⟨lk, hlk⟩ : ∃ lk, lk = lenK rows k := ⟨_, rfl⟩
      have HSC := Aside0.mk hsc
      rw [hsc] at hl2
      rw [← hlk] at hl1 hl2 ⊢
      have HLK := Aside0.mk hlk
      clear hlk hsc
      have bneg : decide (((lk : Nat) : Int) + ((nk : Nat) : Int) < 0) = false := decide_eq_false (by omega)
      go_wp2
      go_round
      case rel => exact ⟨k + 1, by go_num, by rw [HSC.out, ← HLK.out]; go_num, hlt⟩
      case measure => simp [RowKit.intOf]; omega
    · have b1 : decide (((k : Nat) : Int) < ((rows.length : Nat) : Int)) = false := decide_eq_false (by omega)
      obtain rfl : k = rows.length := by omega
      have HG := Aside0.mk (grow_str (lenK rows rows.length) w hbig)
      have hl9 := hbig
      generalize lenK rows rows.length = L at HG hl1 hl9 ⊢
      go_wp2_with fail
      refine HG.out.mono ?_
      rintro e w2 ⟨v2, rfl, ho2, hb2⟩
      have HI : Aside0 ((Kd.raw 1).R 9 w2 w.heap.size (fun _ => True) v2 (((rows.take 0).flatMap fun r => r.2.2).map fun v => [v]) ∧ Below w.heap.size w w2) := ⟨raw_of_nil ho2, hb2⟩
      clear HG ho2 hb2
      go_wp2
      go_loopw [6, 27] (fun v6 v27 W => ∃ k : Nat, v27 = .int .i64 k ∧ k ≤ rows.length ∧ Aside0 ((Kd.raw 1).R 9 W w.heap.size (fun _ => True) v6 (((rows.take k).flatMap fun r => r.2.2).map fun v => [v]) ∧ Below w.heap.size w W)) (fun _ v27 _ => rows.length - (RowKit.intOf v27).toNat)
      case atStart => exact ⟨0, rfl, Nat.zero_le _, HI⟩
      case round =>
        clear HI
        obtain ⟨k, rfl, hk, HI⟩ := hrel
        by_cases hlt : k < rows.length
        · have b2 : decide (((k : Nat) : Int) < ((rows.length : Nat) : Int)) = true := decide_eq_true (by omega)
          have p0 : ((0 : Int) ≤ ((k : Nat) : Int)) = True := eq_true (by omega)
          have p1 : (((k : Nat) : Int) < ((rows.length : Nat) : Int)) = True := eq_true (by omega)
          have hc := pw_cell_below HI.out.2 (HCELL.out k hlt)
          obtain ⟨hr1, hr2⟩ := HROW.out rows[k] (List.getElem_mem hlt)
          have hl2 := HPOS.out (k + 1) hlt
          have hsc := lenK_succ hlt
          have hfl : ((rows.take (k + 1)).flatMap fun r => r.2.2) = ((rows.take k).flatMap fun r => r.2.2) ++ rows[k].2.2 := by
            rw [List.take_succ_eq_append_getElem hlt, List.flatMap_append, List.flatMap_singleton]
          have hfk := lenK_flat rows k
          have HFL := Aside0.mk hfl
          obtain ⟨xs, hxs⟩ : ∃ xs, xs = ((rows.take k).flatMap fun r => r.2.2) := ⟨_, rfl⟩
          have HCR : Aside0 (Kd.C (Kd.raw 1) wr rows[k].1 rows[k].2.2.length (rows[k].2.2.map fun v => [v])) := ⟨C_raw rfl (by omega) (fun hp => by
            obtain ⟨ad, e, h⟩ := hr1 hp
            exact ⟨ad, e, fun j u hj => pw_cell_below HI.out.2 (h j u hj)⟩) hr2⟩
          have hlx : xs.length + rows[k].2.2.length ≤ 8589934592 := by rw [hxs, hfk]; omega
          rw [← hxs] at HI HFL
          clear hr1 hr2 hl2 hsc hfl hfk hxs
          generalize rows[k].1 = Ak at *
          generalize rows[k].2.1 = ck at *
          generalize rows[k].2.2 = ys at *
          go_wp2_with ((with_reducible refine gate_builtin (b := .append) (xs := #[.tmp 31, .tmp 32]) rfl ?_); at_builtin; refine Kd.R_append_rows (Kd.raw 1) (w0 := w) (Rr := (Kd.raw 1).K wr) w.heap.size rfl (.tmp 31) (.tmp 32) 22 9 (.string ⟨#[]⟩) 16 rfl Try.underlying22 info9s rfl (by decide) (by decide) u6 (xs.map fun v => [v]) (ys.map fun v => [v]) Ak ys.length ck (fun _ => True) (fun _ => False) rfl rfl HI.out.1 HCR.out (fun _ _ h => h) (fun _ h => h.elim) (fun _ _ => trivial) HI.out.2 HI.out.2.size (by rw [List.length_map]; omega) ?_; intro v5 w5 ho5 hb5 hg5 hat5; have HO5 := Aside0.mk ho5; have HB5 := Aside0.mk hb5; clear ho5 hb5 hg5 hat5)
          go_roundw
          case measure => show rows.length - (k + 1) < rows.length - k; omega
          case rel => exact ⟨k + 1, by first | rfl | (simp; done) | (congr 1), hlt, ⟨by rw [HFL.out, List.map_append]; exact HO5.out, HB5.out⟩⟩
        · have b2 : decide (((k : Nat) : Int) < ((rows.length : Nat) : Int)) = false := decide_eq_false (by omega)
          obtain rfl : k = rows.length := by omega
          rw [List.take_length] at HI
          go_wp2
          go_ret
          exact ⟨_, rfl, raw_own HI.out.1, HI.out.2⟩
end Go.Proofs.Ytjabcdfbncglnaa
namespace Go.Proofs.Ytjabcdfbncglnaa
open Go.RowKit Go.Proofs.YtjabcdfbncglnaaW.PrintWords Go.Proofs.YtjabcdfbncglnaaW.PrintLast Go.Proofs.YtjabcdfbncglnaaW.PrintMore
set_option linter.unusedVariables false
set_option linter.unusedSimpArgs false

theorem zv_int (w : World) : (zeroValue 2).run Try.prog w = .ok (.int .i64 0) w := by kernel_rfl

set_option maxHeartbeats 4000000 in
set_option maxRecDepth 100000 in
/-- slices.Delete of element i of a row of one's own. -/
theorem delete_int (base g n cap i : Nat) (cur : List Value) (w : World) (hb : base ≤ g) (hh : w.heap[g]? = some (.cells cur.toArray 2 (0, 0))) (hnc : n ≤ cap) (hcm : cap ≤ 9223372036854775807) (hcl : cur.length = cap) (hi : i < n) (h1 : ∀ u ∈ cur.take n, u.oneCell' = true) :
    Calls Try.prog 78 #[.slice (some ⟨g, 0, none⟩) n cap, .int .i64 i, .int .i64 ((i : Nat) + 1 : Int)] w fun e w' => e = .returned (.slice (some ⟨g, 0, none⟩) (n - 1) cap) ∧ w'.ownsRow base 2 1 (.slice (some ⟨g, 0, none⟩) (n - 1) cap) (n - 1) ((cur.take n).eraseIdx i) ∧ w.grownBy w' (some g) := by
  have t22 := Try.underlying83
  obtain ⟨i0, hi0, hz0, hz1, hz2⟩ := info_parts info2s
  obtain ⟨news, hnews⟩ : ∃ news, news = (cur.take n).drop (i + 1) := ⟨_, rfl⟩
  have hlen : news.length = n - (i + 1) := by rw [hnews, List.length_drop, List.length_take]; omega
  have hcell : ∀ j, w.drew.cell? ⟨g, j, none⟩ = cur[j]? := fun j => by
    have h0 : w.drew.heap[g]? = some (.cells cur.toArray 2 (0, 0)) := hh
    rw [blk_cell h0]
    simp
  obtain ⟨A, hA, hsrc⟩ : ∃ A : Addr, (if cap = i + 1 then some (⟨g, 0, none⟩ : Addr) else some ⟨g, i + 1, none⟩) = some A ∧ Aside0 (∀ t u, news[t]? = some u → w.drew.cell? (A.add t) = some u) := by
    by_cases h : cap = i + 1
    · refine ⟨⟨g, 0, none⟩, by simp [h], ⟨fun t u hu => ?_⟩⟩
      have h0 : news.length = 0 := by rw [hlen]; omega
      rw [List.length_eq_zero_iff.1 h0] at hu
      simp at hu
    · refine ⟨⟨g, i + 1, none⟩, by simp [h], ⟨fun t u hu => ?_⟩⟩
      rw [Addr.add_lit, hcell, ← hu, hnews, List.getElem?_drop, List.getElem?_take]
      have ht := (List.getElem?_eq_some_iff.1 hu).1
      rw [if_pos (by omega)]
  have s1 : Aside0 (news.length = (n - (i + 1)) * 1) := ⟨by rw [Nat.mul_one]; exact hlen⟩
  have s2 : Aside0 (∀ u ∈ news, u.oneCell' = true) := ⟨fun u hu => by
    rw [hnews] at hu
    exact h1 u (List.mem_of_mem_drop hu)⟩
  have s3 : Aside0 (∀ t, t < news.length → (w.drew.cell? ⟨g, 0 + i * 1 + t, none⟩).isSome = true ∧ w.drew.frozen? ⟨g, 0 + i * 1 + t, none⟩ = false) := ⟨fun t ht => by
    have h0 : w.drew.heap[g]? = some (.cells cur.toArray 2 (0, 0)) := hh
    refine ⟨?_, blk_frozen h0 _⟩
    rw [hcell, List.getElem?_eq_getElem (by omega)]
    rfl⟩
  obtain ⟨W1, hW1⟩ : ∃ W1, W1 = w.drew.setCells g (0 + i * 1) news := ⟨_, rfl⟩
  obtain ⟨cur1, k1, k2, k3⟩ := setCells_row news (0 + i * 1) w.drew cur.toArray hh (by rw [List.size_toArray]; omega)
  obtain ⟨r1, r2, r3, r4⟩ := setCells_same g news (0 + i * 1) w.drew
  have hfar : ∀ k', k' ≠ g → (w.drew.setCells g (0 + i * 1) news).heap[k']? = w.heap[k']? := fun k' hk' => setCells_far news _ k' hk'
  rw [← hW1] at k1 r1 r2 r3 r4 hfar
  have hcs1 : cur1.size = cap := by rw [k2, List.size_toArray, hcl]
  have hrep : List.replicate (n - (n - 1)) ((.int .i64 0) : Value) = [(.int .i64 0)] := by rw [show n - (n - 1) = 1 by omega]; rfl
  have hclr : ∀ ty, (Builtin.clear_ #[83] ty #[.slice (some ⟨g, n - 1, none⟩) (n - (n - 1)) (cap - (n - 1))]).run Try.prog W1 = .ok (.tuple #[]) (W1.setCell ⟨g, n - 1, none⟩ (.int .i64 0)) := fun ty => by
    have := Lib.run_clear_slice (P := Try.prog) W1 83 2 ty (.int .i64 0) t22 zv_int rfl rfl g (n - 1) (n - (n - 1)) (cap - (n - 1)) (by omega) (fun j hj => by rw [blk_cell k1, Array.getElem?_eq_getElem (by omega)]; rfl) (fun j hj => blk_frozen k1 _)
    rw [hrep] at this
    exact this
  have hfin : Aside0 ((W1.setCell ⟨g, n - 1, none⟩ (.int .i64 0)).ownsRow base 2 1 (.slice (some ⟨g, 0, none⟩) (n - 1) cap) (n - 1) ((cur.take n).eraseIdx i) ∧ w.grownBy (W1.setCell ⟨g, n - 1, none⟩ (.int .i64 0)) (some g)) := by
    refine ⟨⟨by rw [List.length_eraseIdx_of_lt (by rw [List.length_take]; omega), List.length_take]; omega, .inr ⟨g, cap, _, rfl, hb, blk_set k1 (n - 1) (.int .i64 0), by omega, hcm, by rw [Array.size_setIfInBounds]; omega, ?_⟩⟩, ?_⟩
    · rw [Array.toList_setIfInBounds, List.take_set_of_le (by omega), k3, Nat.mul_one, List.eraseIdx_eq_take_drop_succ, ← hnews, List.take_take, Nat.min_eq_left (by omega)]
      simp only [List.toList_toArray, Nat.zero_add, Nat.mul_one]
      rw [List.take_left' (by rw [List.length_append, List.length_take, hlen]; omega)]
    · have hg1 : w.grownBy W1 (some g) := ⟨r1, r2, r3, by rw [r4]; exact Nat.le_refl _, fun k' _ hk' => hfar k' (fun he => hk' (by rw [he]))⟩
      exact gb_set hg1 _ _
  have hW : Aside0 (W1 = w.drew.setCells g (0 + i * 1) news) := ⟨hW1⟩
  have hic : i ≤ cap := by omega
  have hjc : i + 1 ≤ cap := by omega
  have hjn : i + 1 ≤ n := by omega
  have e1 : ((((i : Nat) : Int)) == ((i : Nat) : Int) + 1) = false := by
    apply Bool.eq_false_iff.2
    intro e
    have e : ((i : Nat) : Int) = ((i : Nat) : Int) + 1 := by simpa using e
    omega
  have q0 : ((0 : Int) ≤ ((i : Nat) : Int) + 1) = True := eq_true (by omega)
  have q1 : (((i : Nat) : Int) + 1 ≤ ((n : Nat) : Int)) = True := eq_true (by omega)
  have hn1 : n - 1 ≤ n := by omega
  have en : Aside0 (i + (n - (i + 1)) = n - 1) := ⟨by omega⟩
  clear hW1 hlen hcell hh k1 k2 k3 r1 r2 r3 r4 hfar hcs1 hrep h1 hcl hnews
  go_enter Try.func78, Try.ntmps78
  go_wp2_with fail
  go_region_law (refine step_append_room rfl (.tmp 22) (.tmp 25) 83 rfl 2 i0 1 t22 hi0 hz1 g 0 i cap (by simp [Act.eval, Act.put]) A (n - (i + 1)) (cap - (i + 1)) news (by simp [Act.eval, Act.put]) s1.out hsrc.out s2.out (by omega) s3.out ?_; rw [← hW.out, en.out])
  go_wp2
  go_ret
  exact ⟨rfl, hfin.out.1, hfin.out.2⟩

set_option maxHeartbeats 2000000 in
set_option maxRecDepth 100000 in
/-- a list without one. -/
theorem without_int (A : Option Addr) (n c i : Nat) (vs : List Value) (w : World) (hA : 0 < n → ∃ ad, A = some ad ∧ ∀ j u, vs[j]? = some u → w.cell? (ad.add j) = some u) (hl : vs.length = n) (hbig : n ≤ 8589934592) (h1 : ∀ u ∈ vs, u.oneCell' = true) (hi : i < n) :
    Calls Try.prog 65 #[.slice A n c, .int .i64 i] w fun e w' => ∃ v', e = .returned v' ∧ w'.ownsRow w.heap.size 2 1 v' (n - 1) (vs.eraseIdx i) ∧ Below w.heap.size w w' := by
  have hcl := Aside0.mk (clone_int A n c vs w hA hl hbig h1)
  have H1 := Aside0.mk h1
  clear hA h1 hl
  go_enter Try.func65, Try.ntmps65
  go_wp2_with fail
  refine hcl.out.mono ?_
  rintro e w' ⟨v', rfl, ho, hb⟩
  obtain ⟨g, cap, cur, rfl, hgb, hh, hnc, hcm, hcl2, htk⟩ := row_parts_int ho (by omega)
  have hcap : cap ≤ 9223372036854775807 := by unfold maxLen at hcm; omega
  have HD := Aside0.mk (delete_int w.heap.size g n cap i cur w' hgb hh hnc hcap hcl2 hi (by rw [htk]; exact H1.out))
  rw [htk] at HD
  have HB := Aside0.mk hb
  have HG := Aside0.mk hgb
  clear hb hh ho hcl2 htk hcm hgb
  go_wp2_with fail
  refine HD.out.mono ?_
  rintro e w2 ⟨rfl, ho2, hg2⟩
  have HO2 := Aside0.mk ho2
  have HG2 := Aside0.mk hg2
  clear ho2 hg2
  go_wp2
  go_ret
  exact ⟨_, rfl, HO2.out, HB.out.grown HG2.out HB.out.size (fun k hk => by injection hk with hk; subst hk; exact HG.out)⟩
end Go.Proofs.Ytjabcdfbncglnaa
namespace Go.Proofs.Ytjabcdfbncglnaa
open Go.RowKit Go.Proofs.YtjabcdfbncglnaaW.PrintWords Go.Proofs.YtjabcdfbncglnaaW.PrintLast Go.Proofs.YtjabcdfbncglnaaW.PrintMore
set_option linter.unusedVariables false
set_option linter.unusedSimpArgs false


set_option maxHeartbeats 2000000 in
set_option maxRecDepth 100000 in
/-- slices.Grow of nothing. -/
theorem grow_int (n : Nat) (w : World) (hn : n ≤ 8589934592) :
    Calls Try.prog 94 #[.slice none 0 0, .int .i64 n] w fun e w' => ∃ v', e = .returned v' ∧ w'.ownsRow w.heap.size 2 1 v' 0 [] ∧ Below w.heap.size w w' := by
  obtain ⟨i0, hi0, hz0, hz1, hz2⟩ := info_parts info2s
  have b0 : decide (((n : Nat) : Int) < 0) = false := decide_eq_false (by omega)
  by_cases h0 : n = 0
  · subst h0
    go_enter Try.func94, Try.ntmps94
    go_wp2
    go_ret
    exact ⟨_, rfl, World.ownsRow_nil _ _ _ _, Below.refl _ _⟩
  · have b1 : decide ((0 : Int) < ((n : Nat) : Int)) = true := decide_eq_true (by omega)
    have b1n : decide (0 < n) = true := decide_eq_true (by omega)
    have hzb : i0.bytes = 8 := hz2
    have hrz : ∀ ty, (Builtin.append_ #[83, 3] ty #[.slice none 0 0, .int .i64 ((n : Nat) : Int)]).run Try.prog w =
        .ok (.slice (some ⟨w.heap.size, 0, none⟩) n (grownCap w n 0 2)) (w.drew.alloc (.cells (([] : List Value).toArray ++ Builtin.zeroCells ((.int .i64 0) : Value).cells n ++ Builtin.zeroCells ((.int .i64 0) : Value).cells (grownCap w n 0 2 - n)) 2)) := fun ty => by
      have h := Lib.run_append_grow_zeros (P := Try.prog) w 83 3 ty 2 i0 _ .i64 .i64 Try.underlying83 Try.underlying3 hi0 hz0 none 0 0 ([] : List Value) (by simp [Builtin.firstCells]) n (by omega) (by omega) (by omega) (by omega) (by rw [hzb]; omega) (by rw [hzb, Nat.zero_add]; exact growslice_fits (by omega) (by omega))
      rw [Nat.zero_add] at h
      exact h
    have hGn : n ≤ grownCap w n 0 2 := grownCap_ge w _ _ _
    have hG63 : grownCap w n 0 2 ≤ maxLen := grownCap_le_maxLen w n 0 2 (by unfold maxLen; omega)
    have hzs : ((.int .i64 0) : Value).cells.size = 1 := rfl
    generalize grownCap w n 0 2 = G at *
    have hsz : (([] : List Value).toArray ++ Builtin.zeroCells ((.int .i64 0) : Value).cells n ++ Builtin.zeroCells ((.int .i64 0) : Value).cells (G - n)).size = G := by
      simp [Builtin.zeroCells, hzs]
      omega
    generalize ([] : List Value).toArray ++ Builtin.zeroCells ((.int .i64 0) : Value).cells n ++ Builtin.zeroCells ((.int .i64 0) : Value).cells (G - n) = ZZ at *
    have HO : Aside0 ((w.drew.alloc (.cells ZZ 2)).ownsRow w.heap.size 2 1 (.slice (some ⟨w.heap.size, 0, none⟩) 0 G) 0 []) := ⟨⟨rfl, .inr ⟨w.heap.size, G, ZZ, rfl, Nat.le_refl _, heap_alloc_new w.drew _, Nat.zero_le _, hG63, by omega, by simp⟩⟩⟩
    have HB : Aside0 (Below w.heap.size w (w.drew.alloc (.cells ZZ 2))) := ⟨below_mk (below_drew (Below.refl _ _)) _⟩
    have hGm : G ≤ 9223372036854775807 := by unfold maxLen at hG63; omega
    clear hG63 hsz hzs hzb
    have HR := Aside0.mk hrz
    clear hrz
    go_enter Try.func94, Try.ntmps94
    go_wp2_with ((with_reducible refine gate_builtin (b := .append) (xs := #[.tmp 20, .tmp 21]) rfl ?_); at_builtin; refine wpList_append_run rfl (.tmp 20) (.tmp 21) _ rfl _ _ rfl rfl _ _ HR.out ?_)
    go_ret
    exact ⟨_, rfl, HO.out, HB.out⟩

set_option maxHeartbeats 4000000 in
set_option maxRecDepth 100000 in
/-- slices.Concat. -/
theorem concat_int (vb : Nat) (rows : List (Option Addr × Nat × List Value)) (w : World) (hcell : ∀ k (h : k < rows.length), w.cell? ⟨vb, k, none⟩ = some (.slice rows[k].1 rows[k].2.2.length rows[k].2.1))
    (hrow : ∀ r ∈ rows, (0 < r.2.2.length → ∃ ad, r.1 = some ad ∧ ∀ j u, r.2.2[j]? = some u → w.cell? (ad.add j) = some u) ∧ ∀ u ∈ r.2.2, u.oneCell' = true) (hm : rows.length ≤ 8) (hbig : (rows.map fun r => r.2.2.length).sum ≤ 8589934592) :
    Calls Try.prog 88 #[.slice (some ⟨vb, 0, none⟩) rows.length rows.length] w fun e w' => ∃ v', e = .returned v' ∧ w'.ownsRow w.heap.size 2 1 v' (rows.flatMap fun r => r.2.2).length (rows.flatMap fun r => r.2.2) ∧ Below w.heap.size w w' := by
  rw [← lenK_all] at hbig
  have HCELL := Aside0.mk hcell
  have HROW := Aside0.mk hrow
  clear hcell hrow
  have hpos : ∀ k, k ≤ rows.length → lenK rows k ≤ 8589934592 := fun k hk => by
    have := lenK_le (rows := rows) (rows.length - k) k
    rw [show k + (rows.length - k) = rows.length by omega] at this
    omega
  have HPOS := Aside0.mk hpos
  clear hpos
  go_enter Try.func88, Try.ntmps88
  go_wp2
  go_loop [3, 11] (fun v3 v11 => ∃ k : Nat, v11 = .int .i64 k ∧ v3 = .int .i64 (lenK rows k : Nat) ∧ k ≤ rows.length) (fun _ v11 => rows.length - (RowKit.intOf v11).toNat)
  case atStart => exact ⟨0, rfl, rfl, Nat.zero_le _⟩
  case round =>
    obtain ⟨k, rfl, rfl, hk⟩ := hrel
    have hl1 := HPOS.out k hk
    by_cases hlt : k < rows.length
    · have b1 : decide (((k : Nat) : Int) < ((rows.length : Nat) : Int)) = true := decide_eq_true (by omega)
      have p0 : ((0 : Int) ≤ ((k : Nat) : Int)) = True := eq_true (by omega)
      have p1 : (((k : Nat) : Int) < ((rows.length : Nat) : Int)) = True := eq_true (by omega)
      have hc := HCELL.out k hlt
      have hl2 := HPOS.out (k + 1) hlt
      have hsc := lenK_succ hlt
      obtain ⟨nk, hnk⟩ : ∃ nk, nk = rows[k].2.2.length := ⟨_, rfl⟩
      rw [← hnk] at hc hsc
      obtain ⟨Ak, hAk⟩ : ∃ Ak, Ak = rows[k].1 := ⟨_, rfl⟩
      obtain ⟨ck, hck⟩ : ∃ ck, ck = rows[k].2.1 := ⟨_, rfl⟩
      rw [← hAk, ← hck] at hc
      clear hnk hAk hck
      obtain ⟨lk, hlk⟩ : ∃ lk, lk = lenK rows k := ⟨_, rfl⟩
      have HSC := Aside0.mk hsc
      rw [hsc] at hl2
      rw [← hlk] at hl1 hl2 ⊢
      have HLK := Aside0.mk hlk
      clear hlk hsc
      have bneg : decide (((lk : Nat) : Int) + ((nk : Nat) : Int) < 0) = false := decide_eq_false (by omega)
      go_wp2
      go_round
      case rel => exact ⟨k + 1, by go_num, by rw [HSC.out, ← HLK.out]; go_num, hlt⟩
      case measure => simp [RowKit.intOf]; omega
    · have b1 : decide (((k : Nat) : Int) < ((rows.length : Nat) : Int)) = false := decide_eq_false (by omega)
      obtain rfl : k = rows.length := by omega
      have HG := Aside0.mk (grow_int (lenK rows rows.length) w hbig)
      have hl9 := hbig
      generalize lenK rows rows.length = L at HG hl1 hl9 ⊢
      go_wp2_with fail
      refine HG.out.mono ?_
      rintro e w2 ⟨v2, rfl, ho2, hb2⟩
      have HI : Aside0 ((Kd.raw 1).R 2 w2 w.heap.size (fun _ => True) v2 (((rows.take 0).flatMap fun r => r.2.2).map fun v => [v]) ∧ Below w.heap.size w w2) := ⟨raw_of_nil ho2, hb2⟩
      clear HG ho2 hb2
      go_wp2
      go_loopw [6, 27] (fun v6 v27 W => ∃ k : Nat, v27 = .int .i64 k ∧ k ≤ rows.length ∧ Aside0 ((Kd.raw 1).R 2 W w.heap.size (fun _ => True) v6 (((rows.take k).flatMap fun r => r.2.2).map fun v => [v]) ∧ Below w.heap.size w W)) (fun _ v27 _ => rows.length - (RowKit.intOf v27).toNat)
      case atStart => exact ⟨0, rfl, Nat.zero_le _, HI⟩
      case round =>
        clear HI
        obtain ⟨k, rfl, hk, HI⟩ := hrel
        by_cases hlt : k < rows.length
        · have b2 : decide (((k : Nat) : Int) < ((rows.length : Nat) : Int)) = true := decide_eq_true (by omega)
          have p0 : ((0 : Int) ≤ ((k : Nat) : Int)) = True := eq_true (by omega)
          have p1 : (((k : Nat) : Int) < ((rows.length : Nat) : Int)) = True := eq_true (by omega)
          have hc := pw_cell_below HI.out.2 (HCELL.out k hlt)
          obtain ⟨hr1, hr2⟩ := HROW.out rows[k] (List.getElem_mem hlt)
          have hl2 := HPOS.out (k + 1) hlt
          have hsc := lenK_succ hlt
          have hfl : ((rows.take (k + 1)).flatMap fun r => r.2.2) = ((rows.take k).flatMap fun r => r.2.2) ++ rows[k].2.2 := by
            rw [List.take_succ_eq_append_getElem hlt, List.flatMap_append, List.flatMap_singleton]
          have hfk := lenK_flat rows k
          have HFL := Aside0.mk hfl
          obtain ⟨xs, hxs⟩ : ∃ xs, xs = ((rows.take k).flatMap fun r => r.2.2) := ⟨_, rfl⟩
          have HCR : Aside0 (Kd.C (Kd.raw 1) wr rows[k].1 rows[k].2.2.length (rows[k].2.2.map fun v => [v])) := ⟨C_raw rfl (by omega) (fun hp => by
            obtain ⟨ad, e, h⟩ := hr1 hp
            exact ⟨ad, e, fun j u hj => pw_cell_below HI.out.2 (h j u hj)⟩) hr2⟩
          have hlx : xs.length + rows[k].2.2.length ≤ 8589934592 := by rw [hxs, hfk]; omega
          rw [← hxs] at HI HFL
          clear hr1 hr2 hl2 hsc hfl hfk hxs
          generalize rows[k].1 = Ak at *
          generalize rows[k].2.1 = ck at *
          generalize rows[k].2.2 = ys at *
          go_wp2_with ((with_reducible refine gate_builtin (b := .append) (xs := #[.tmp 31, .tmp 32]) rfl ?_); at_builtin; refine Kd.R_append_rows (Kd.raw 1) (w0 := w) (Rr := (Kd.raw 1).K wr) w.heap.size rfl (.tmp 31) (.tmp 32) 83 2 (.int .i64 0) 8 rfl Try.underlying83 info2s rfl (by decide) (by decide) u6 (xs.map fun v => [v]) (ys.map fun v => [v]) Ak ys.length ck (fun _ => True) (fun _ => False) rfl rfl HI.out.1 HCR.out (fun _ _ h => h) (fun _ h => h.elim) (fun _ _ => trivial) HI.out.2 HI.out.2.size (by rw [List.length_map]; omega) ?_; intro v5 w5 ho5 hb5 hg5 hat5; have HO5 := Aside0.mk ho5; have HB5 := Aside0.mk hb5; clear ho5 hb5 hg5 hat5)
          go_roundw
          case measure => show rows.length - (k + 1) < rows.length - k; omega
          case rel => exact ⟨k + 1, by first | rfl | (simp; done) | (congr 1), hlt, ⟨by rw [HFL.out, List.map_append]; exact HO5.out, HB5.out⟩⟩
        · have b2 : decide (((k : Nat) : Int) < ((rows.length : Nat) : Int)) = false := decide_eq_false (by omega)
          obtain rfl : k = rows.length := by omega
          rw [List.take_length] at HI
          go_wp2
          go_ret
          exact ⟨_, rfl, raw_own HI.out.1, HI.out.2⟩
end Go.Proofs.Ytjabcdfbncglnaa
