/- WHAT IS PROVED: mend joins two neighbours among the kids of an inner node. drop out of a leaf. -/
import Derived.Test.YtjabcdfbncglnaaLB8
namespace Go.Proofs.Ytjabcdfbncglnaa
open Go.RowKit Go.Proofs.YtjabcdfbncglnaaW.PrintWords Go.Proofs.YtjabcdfbncglnaaW.PrintLast Go.Proofs.YtjabcdfbncglnaaW.PrintMore
open PTreeRanks (S59 k59 z59)
set_option linter.unusedVariables false
set_option linter.unusedSimpArgs false

theorem joined_calls {d : Nat} {a b : T d} {w : World} {ok : Nat → Prop} {bt order : Nat} {va vb : Value} (mid : ByteArray) (h0 : w.cell? ⟨bt, 0, none⟩ = some (.int .i64 order)) (ho3 : 3 ≤ order) (hMa : (NK d).M w 0 ok a [va]) (hMb : (NK d).M w 0 ok b [vb]) (hSa : Shape d a) (hSb : Shape d b)
    (hl : cntT d a + cntT d b ≤ 900) (hsz : size d a + size d b ≤ 1099511627776) (hok : ∀ k, w.heap.size ≤ k → ok k) :
    Calls Try.prog 79 #[.pointer (some ⟨bt, 0, none⟩), va, .string mid, vb] w (SplitPost d (joinedT order d a mid b) ok w) := by
  cases d with
  | zero => exact joined_leaf (la := a) (lb := b) mid h0 ho3 hMa hMb hl hok
  | succ d =>
    obtain ⟨ka, ca⟩ := a
    obtain ⟨kb, cb⟩ := b
    exact joined_inner (ka := ka) (ca := ca) (kb := kb) (cb := cb) mid h0 ho3 hMa hMb hSa.2.1 hSb.2.1 hl hsz hok

theorem sizeS_joinedT {order : Nat} : ∀ {d : Nat} (a b : T d) (mid : ByteArray), sizeS (joinedT order d a mid b) = size d a + size d b
  | 0, a, b, mid => by
    have h : sizeS (d := 0) (halveLeafT order ((show List S59 from a) ++ (show List S59 from b))) = ((show List S59 from a) ++ (show List S59 from b)).length := sizeS_halveLeafT order _
    have e : size 0 a + size 0 b = ((show List S59 from a) ++ (show List S59 from b)).length := by rw [List.length_append]; rfl
    rw [e]
    exact h
  | d + 1, a, b, mid => by
    have h := sizeS_halveT (d := d) order (a.1 ++ [mid] ++ b.1) (a.2 ++ b.2)
    have e : size (d + 1) a + size (d + 1) b = sizes (a.2 ++ b.2) := by rw [sizes_append]; rfl
    rw [e]
    exact h
theorem sizes_erase {d : Nat} (cs : List (T d)) (i : Nat) (h : i < cs.length) : sizes (cs.eraseIdx i) + size d cs[i] = sizes cs := by
  rw [List.eraseIdx_eq_take_drop_succ, sizes_append]
  have := sizes_split cs i
  rw [List.drop_eq_getElem_cons h, sizes_cons] at this
  omega

theorem Elems_erase {α : Type} {R : α → Value → Prop} {cs : List α} {vs : List Value} (h : Elems R cs vs) (i : Nat) : Elems R (cs.eraseIdx i) (vs.eraseIdx i) := by
  rw [List.eraseIdx_eq_take_drop_succ, List.eraseIdx_eq_take_drop_succ]
  exact (h.take i).append (h.drop (i + 1))

/-- What a maker of a node that is new answers. -/
def FreshPost (d : Nat) (t : T d) (ok : Nat → Prop) (w : World) (e : Ending) (w' : World) : Prop :=
  ∃ ty b, e = .returned (.iface ty (.pointer (some ⟨b, 0, none⟩))) ∧ w.heap.size ≤ b ∧ (NK d).M w' 0 ok t [.iface ty (.pointer (some ⟨b, 0, none⟩))] ∧ Below w.heap.size w w'

set_option maxRecDepth 100000 in
set_option maxHeartbeats 16000000 in
theorem mend_calls {d i : Nat} {ks : List ByteArray} {cs : List (T d)} {kv cv : Value} {w : World} {ok : Nat → Prop} {bt order : Nat} (h0 : w.cell? ⟨bt, 0, none⟩ = some (.int .i64 order)) (ho3 : 3 ≤ order) (hk : SRow w 0 ok kv ks) (hc : CRow d w 0 ok cv cs)
    (hlen : cs.length = ks.length + 1) (hkn : ks.length ≤ 800) (hi : i + 1 < cs.length) (hS : ∀ c ∈ cs, Shape d c) (hcnt : ∀ c ∈ cs, cntT d c ≤ 400) (hsz : sizes cs ≤ 1099511627776) (hok : ∀ k, w.heap.size ≤ k → ok k) :
    Calls Try.prog 67 #[.pointer (some ⟨bt, 0, none⟩), kv, cv, .int .i64 i] w (FreshPost (d + 1) (mendT order ks cs i) ok w) := by
  obtain ⟨hko, hkb⟩ := SRow_own hk
  obtain ⟨vs, hvo, hve, hvb⟩ := CRow_own hc
  obtain ⟨A, c, rfl, hkc, hkc2, _, hkA⟩ := own_cells hko
  obtain ⟨A', c', rfl, hvc, hvc2, hvl, hvA⟩ := own_cells hvo
  have hik : i < ks.length := by omega
  have hic : i < cs.length := by omega
  obtain ⟨ad, rfl, hkA1⟩ := hkA (by omega)
  obtain ⟨ad', rfl, hvA1⟩ := hvA (by omega)
  obtain ⟨gk, rfl⟩ : ∃ gk, ad = ⟨gk, 0, none⟩ := by
    rcases hko.2 with ⟨h, _⟩ | ⟨g', cap', cur', h, _⟩
    · cases h
    · cases h; exact ⟨_, rfl⟩
  obtain ⟨gc, rfl⟩ : ∃ gc, ad' = ⟨gc, 0, none⟩ := by
    rcases hvo.2 with ⟨h, _⟩ | ⟨g', cap', cur', h, _⟩
    · cases h
    · cases h; exact ⟨_, rfl⟩
  obtain ⟨va, hva, hMa⟩ := hve.get i hic
  obtain ⟨vb, hvb', hMb⟩ := hve.get (i + 1) hi
  have hone : ∀ u ∈ vs, u.oneCell' = true := fun u hu => by
    obtain ⟨t, _, ht⟩ := hve.mem hu
    exact NK_one ((NK d).K_of_M ht)
  obtain ⟨tya, baa, rfl⟩ := NK_form ((NK d).K_of_M hMa)
  obtain ⟨tyb, bbb, rfl⟩ := NK_form ((NK d).K_of_M hMb)
  have x1 : w.cell? ⟨gc, i, none⟩ = some (.iface tya (.pointer (some ⟨baa, 0, none⟩))) := by have h := hvA1 i _ hva; rw [Addr.add_lit, Nat.zero_add] at h; exact h
  have x2 : w.cell? ⟨gc, i + 1, none⟩ = some (.iface tyb (.pointer (some ⟨bbb, 0, none⟩))) := by have h := hvA1 (i + 1) _ hvb'; rw [Addr.add_lit, Nat.zero_add] at h; exact h
  have x3 : w.cell? ⟨gk, i, none⟩ = some (.string ks[i]) := by have h := hkA1 i _ (by rw [List.getElem?_map, List.getElem?_eq_getElem hik]; rfl); rw [Addr.add_lit, Nat.zero_add] at h; exact h
  have hmend : mendT order ks cs i = mendS ks cs i (joinedT order d cs[i] ks[i] cs[i + 1]) := by
    unfold mendT
    rw [List.getElem?_eq_getElem hic, List.getElem?_eq_getElem hik, List.getElem?_eq_getElem hi]
  rw [hmend]
  have s2 := sizes_set cs i cs[i] hic
  have hab : size d cs[i] + size d cs[i + 1] ≤ sizes cs := by
    have e1 := sizes_take cs i hic
    have e2 := sizes_take cs (i + 1) hi
    have e3 := sizes_take_le cs (i + 1) hi
    omega
  have HJ : Aside0 (∀ W, Below w.heap.size w W → Calls Try.prog 79 #[.pointer (some ⟨bt, 0, none⟩), .iface tya (.pointer (some ⟨baa, 0, none⟩)), .string ks[i], .iface tyb (.pointer (some ⟨bbb, 0, none⟩))] W (SplitPost d (joinedT order d cs[i] ks[i] cs[i + 1]) ok W)) :=
    ⟨fun W hW => joined_calls ks[i] (pw_cell_below hW h0) ho3 (M_below' hMa hW) (M_below' hMb hW) (hS _ (List.getElem_mem hic)) (hS _ (List.getElem_mem hi)) (by have := hcnt _ (List.getElem_mem hic); have := hcnt _ (List.getElem_mem hi); omega) (by omega) (fun k h => hok k (Nat.le_trans hW.size h))⟩
  have HJB : Aside0 (∀ (W : World) (sb : Nat), Below w.heap.size w W → W.heap[sb]? = some (.cells #[.nilIface, .string ⟨#[]⟩, .nilIface] 107 (0, 0)) → w.heap.size ≤ sb → Calls Try.prog 79 #[.pointer (some ⟨bt, 0, none⟩), .iface tya (.pointer (some ⟨baa, 0, none⟩)), .string ks[i], .iface tyb (.pointer (some ⟨bbb, 0, none⟩))] W (SplitPost d (joinedT order d cs[i] ks[i] cs[i + 1]) (fun k => ok k ∧ k ≠ sb) W)) :=
    ⟨fun W sb hW hsb hws => joined_calls ks[i] (pw_cell_below hW h0) ho3 ((NK d).M_mono (fun k hk => ⟨hk.1, by have := hk.2.2.1; omega⟩) (M_below' ((NK d).M_bound hMa) hW)) ((NK d).M_mono (fun k hk => ⟨hk.1, by have := hk.2.2.1; omega⟩) (M_below' ((NK d).M_bound hMb) hW)) (hS _ (List.getElem_mem hic)) (hS _ (List.getElem_mem hi)) (by have := hcnt _ (List.getElem_mem hic); have := hcnt _ (List.getElem_mem hi); omega) (by omega) (fun k h => ⟨hok k (Nat.le_trans hW.size h), by have := blk_lt hsb; omega⟩)⟩
  have hjs := sizeS_joinedT (order := order) cs[i] cs[i + 1] ks[i]
  -- the sizes of what comes out
  have hsum : ∀ l, sizes ((cs.set i l).eraseIdx (i + 1)) + size d cs[i] + size d cs[i + 1] = sizes cs + size d l := fun l => by
    have h1 := sizes_set cs i l hic
    have h2 := sizes_erase (cs.set i l) (i + 1) (by rw [List.length_set]; exact hi)
    rw [List.getElem_set_ne (by omega)] at h2
    omega
  have hsum2 : ∀ l r, sizes ((cs.set i l).set (i + 1) r) + size d cs[i] + size d cs[i + 1] = sizes cs + size d l + size d r := fun l r => by
    have h1 := sizes_set cs i l hic
    have h2 := sizes_set (cs.set i l) (i + 1) r (by rw [List.length_set]; exact hi)
    rw [List.getElem_set_ne (by omega)] at h2
    omega
  have HSUM := Aside0.mk hsum
  have HSUM2 := Aside0.mk hsum2
  have HKA := Aside0.mk hkA1
  have HVA := Aside0.mk hvA1
  have HVE := Aside0.mk hve
  have HONE := Aside0.mk hone
  have HVL := Aside0.mk hvl
  have HOK := Aside0.mk hok
  have HC1 : Aside0 (∀ (W : World) (ty lb : Nat), Below w.heap.size w W → Calls Try.prog 61 #[.slice (some ⟨gc, 0, none⟩) cs.length c', .int .i64 i, .iface ty (.pointer (some ⟨lb, 0, none⟩))] W fun e w' => ∃ v', e = .returned v' ∧ w'.ownsRow W.heap.size 69 1 v' cs.length (vs.set i (.iface ty (.pointer (some ⟨lb, 0, none⟩)))) ∧ Below W.heap.size W w') :=
    ⟨fun W ty lb hW => changed_node _ _ _ _ _ ty lb W (fun _ => ⟨_, rfl, cells_later HVA.out hW⟩) HVL.out (by omega) HONE.out hic⟩
  have HC2 : Aside0 (∀ W, Below w.heap.size w W → Calls Try.prog 64 #[.slice (some ⟨gk, 0, none⟩) ks.length c, .int .i64 i] W fun e w' => ∃ v', e = .returned v' ∧ w'.ownsRow W.heap.size 9 1 v' (ks.length - 1) ((ks.eraseIdx i).map .string) ∧ Below W.heap.size W w') :=
    ⟨fun W hW => by
      have := without_str (some ⟨gk, 0, none⟩) ks.length c i (ks.map .string) W (fun _ => ⟨_, rfl, cells_later HKA.out hW⟩) (by rw [List.length_map]) (by omega) (fun u hu => by obtain ⟨y, _, rfl⟩ := List.mem_map.1 hu; rfl) hik
      have e : (ks.map Value.string).eraseIdx i = (ks.eraseIdx i).map Value.string := by rw [List.eraseIdx_eq_take_drop_succ, List.eraseIdx_eq_take_drop_succ, List.map_append, List.map_take, List.map_drop]
      rw [e] at this
      exact this⟩
  have HC3 : Aside0 (∀ (W : World) (m : ByteArray), Below w.heap.size w W → Calls Try.prog 81 #[.slice (some ⟨gk, 0, none⟩) ks.length c, .int .i64 i, .string m] W fun e w' => ∃ v', e = .returned v' ∧ w'.ownsRow W.heap.size 9 1 v' ks.length ((ks.set i m).map .string) ∧ Below W.heap.size W w') :=
    ⟨fun W m hW => by
      rw [List.map_set]
      exact changed_str _ _ _ _ _ m W (fun _ => ⟨_, rfl, cells_later HKA.out hW⟩) (by rw [List.length_map]) (by omega) (fun u hu => by obtain ⟨y, _, rfl⟩ := List.mem_map.1 hu; rfl) hik⟩
  have hi0 : ((0 : Int) ≤ ((i : Nat) : Int)) = True := eq_true (by omega)
  have hi1 : (((i : Nat) : Int) < ((cs.length : Nat) : Int)) = True := eq_true (by omega)
  have hi2 : (((i : Nat) : Int) < ((ks.length : Nat) : Int)) = True := eq_true (by omega)
  have hi3 : ((0 : Int) ≤ ((i : Nat) : Int) + 1) = True := eq_true (by omega)
  have hi4 : (((i : Nat) : Int) + 1 < ((cs.length : Nat) : Int)) = True := eq_true (by omega)
  have HLEN := Aside0.mk hlen
  clear hk hc hko hvo hkA hvA hkA1 hvA1 hve hone hkb hvb hMa hMb hsum hsum2 hok hmend s2 hS hcnt hva hvb' h0 hlen hvl
  generalize joinedT order d cs[i] ks[i] cs[i + 1] = sp at *
  obtain ⟨hl0, hr0⟩ : (∃ l0, l0 = size d cs[i]) ∧ ∃ r0, r0 = size d cs[i + 1] := ⟨⟨_, rfl⟩, ⟨_, rfl⟩⟩
  have HJS := Aside0.mk hjs
  have HAB := Aside0.mk hab
  clear hjs hab hl0 hr0
  generalize ks[i] = mid0 at *
  have HSK : Aside0 (∀ W, Below w.heap.size w W → (W.cell? ⟨gc, i, none⟩ = some (.iface tya (.pointer (some ⟨baa, 0, none⟩))) ∧ W.cell? ⟨gc, i + 1, none⟩ = some (.iface tyb (.pointer (some ⟨bbb, 0, none⟩))) ∧ W.cell? ⟨gk, i, none⟩ = some (.string mid0)) ∧ Below w.heap.size w W) := ⟨fun W hW => ⟨⟨pw_cell_below hW x1, pw_cell_below hW x2, pw_cell_below hW x3⟩, hW⟩⟩
  clear x1 x2 x3
  obtain ⟨s1, _ | ⟨mid2, s2⟩⟩ := sp
  · go_enter Try.func67, Try.ntmps67
    go_wp2
    refine wp_region_held_drew (S := fun W' => (W'.cell? ⟨gc, i, none⟩ = some (.iface tya (.pointer (some ⟨baa, 0, none⟩))) ∧ W'.cell? ⟨gc, i + 1, none⟩ = some (.iface tyb (.pointer (some ⟨bbb, 0, none⟩))) ∧ W'.cell? ⟨gk, i, none⟩ = some (.string mid0)) ∧ Below w.heap.size w W') (by kernel_rfl) (HSK.out _ (below_drew (Below.refl _ _))) (fun hHeld => ?_)
    have HG0 := Aside0.mk (below_drew (Below.refl w.heap.size w))
    generalize w.drew = W0 at *
    have et : (((i : Nat) : Int) + 1).toNat = i + 1 := by omega
    have ew : IntKind.i64.wrap (((i : Nat) : Int) + 1) = ((i : Nat) : Int) + 1 := by rw [IntKind.wrap_i64]; omega
    refine wpAnyH_take (i := 0) (v := ?v0n) rfl (by kernel_rfl) (by kernel_rfl) (by kernel_rfl) (fun _ _ _ h => h) (Or.inl ⟨by rfl, fun wq hSw => ?y0n⟩) (by assumption) ?r0n
    case y0n => ((try dsimp only at hSw); go_simp; try with_reducible rfl)
    try simp only [Act.put, List.setIfInBounds_toArray, List.set_cons_zero, List.set_cons_succ, List.getElem_toArray, List.getElem_cons_zero, List.getElem_cons_succ]
    refine wpAnyH_take (i := 1) (v := ?v1n) rfl (by kernel_rfl) (by kernel_rfl) (by kernel_rfl) (fun _ _ _ h => h) (Or.inl ⟨by rfl, fun wq hSw => ?y1n⟩) (by assumption) ?r1n
    case y1n => ((try dsimp only at hSw); go_simp; try with_reducible rfl)
    try simp only [Act.put, List.setIfInBounds_toArray, List.set_cons_zero, List.set_cons_succ, List.getElem_toArray, List.getElem_cons_zero, List.getElem_cons_succ]
    refine wpAnyH_take (i := 2) (v := ?v2n) rfl (by kernel_rfl) (by kernel_rfl) (by kernel_rfl) (fun _ _ _ h => h) (Or.inl ⟨by rfl, fun wq hSw => ?y2n⟩) (by assumption) ?r2n
    case y2n => ((try dsimp only at hSw); go_simp; try with_reducible rfl)
    try simp only [Act.put, List.setIfInBounds_toArray, List.set_cons_zero, List.set_cons_succ, List.getElem_toArray, List.getElem_cons_zero, List.getElem_cons_succ]
    refine wpAnyH_take (i := 3) (v := ?v3n) rfl (by kernel_rfl) (by kernel_rfl) (by kernel_rfl) (fun _ _ _ h => h) (Or.inl ⟨by rfl, fun wq hSw => ?y3n⟩) (by assumption) ?r3n
    case y3n => ((try dsimp only at hSw); go_simp; try with_reducible rfl)
    try simp only [Act.put, List.setIfInBounds_toArray, List.set_cons_zero, List.set_cons_succ, List.getElem_toArray, List.getElem_cons_zero, List.getElem_cons_succ]
    refine wpAnyH_take (i := 4) (v := ?v4n) rfl (by kernel_rfl) (by kernel_rfl) (by kernel_rfl) (fun _ _ _ h => h) (Or.inl ⟨by rfl, fun wq hSw => ?y4n⟩) (by assumption) ?r4n
    case y4n => ((try dsimp only at hSw); go_simp; try with_reducible rfl)
    try simp only [Act.put, List.setIfInBounds_toArray, List.set_cons_zero, List.set_cons_succ, List.getElem_toArray, List.getElem_cons_zero, List.getElem_cons_succ]
    refine wpAnyH_take (i := 5) (v := ?v5n) rfl (by kernel_rfl) (by kernel_rfl) (by kernel_rfl) (fun _ _ _ h => h) (Or.inl ⟨by rfl, fun wq hSw => ?y5n⟩) (by assumption) ?r5n
    case y5n => ((try dsimp only at hSw); go_simp; try with_reducible rfl)
    try simp only [Act.put, List.setIfInBounds_toArray, List.set_cons_zero, List.set_cons_succ, List.getElem_toArray, List.getElem_cons_zero, List.getElem_cons_succ]
    refine wpAnyH_take (i := 6) (v := ?v6n) rfl (by kernel_rfl) (by kernel_rfl) (by kernel_rfl) (fun _ _ _ h => h) (Or.inl ⟨by rfl, fun wq hSw => ?y6n⟩) (by assumption) ?r6n
    case y6n => ((try dsimp only at hSw); go_simp; try with_reducible rfl)
    try simp only [Act.put, List.setIfInBounds_toArray, List.set_cons_zero, List.set_cons_succ, List.getElem_toArray, List.getElem_cons_zero, List.getElem_cons_succ]
    refine wpAnyH_take (i := 7) (v := ?v7n) rfl (by kernel_rfl) (by kernel_rfl) (by kernel_rfl) (fun _ _ _ h => h) (Or.inl ⟨by rfl, fun wq hSw => ?y7n⟩) (by assumption) ?r7n
    case y7n => ((try dsimp only at hSw); go_simp; try with_reducible rfl)
    try simp only [Act.put, List.setIfInBounds_toArray, List.set_cons_zero, List.set_cons_succ, List.getElem_toArray, List.getElem_cons_zero, List.getElem_cons_succ]
    refine wpAnyH_take (i := 8) (v := ?v8n) rfl (by kernel_rfl) (by kernel_rfl) (by kernel_rfl) (fun _ _ _ h => h) (Or.inl ⟨by rfl, fun wq hSw => ?y8n⟩) (by assumption) ?r8n
    case y8n => ((try dsimp only at hSw); go_simp; try with_reducible rfl)
    try simp only [Act.put, List.setIfInBounds_toArray, List.set_cons_zero, List.set_cons_succ, List.getElem_toArray, List.getElem_cons_zero, List.getElem_cons_succ]
    refine wpAnyH_take (i := 9) (v := ?v9n) rfl (by kernel_rfl) (by kernel_rfl) (by kernel_rfl) (fun _ _ _ h => h) (Or.inl ⟨by rfl, fun wq hSw => ?y9n⟩) (by assumption) ?r9n
    case y9n => ((try dsimp only at hSw); go_simp; try with_reducible rfl)
    try simp only [Act.put, List.setIfInBounds_toArray, List.set_cons_zero, List.set_cons_succ, List.getElem_toArray, List.getElem_cons_zero, List.getElem_cons_succ]
    refine wpAnyH_take (i := 10) (v := ?v10n) rfl (by kernel_rfl) (by kernel_rfl) (by kernel_rfl) (fun _ _ _ h => h) (Or.inl ⟨by rfl, fun wq hSw => ?y10n⟩) (by assumption) ?r10n
    case y10n => ((try dsimp only at hSw); go_simp; try with_reducible rfl)
    try simp only [Act.put, List.setIfInBounds_toArray, List.set_cons_zero, List.set_cons_succ, List.getElem_toArray, List.getElem_cons_zero, List.getElem_cons_succ]
    refine wpAnyH_take (i := 11) (v := ?v11n) rfl (by kernel_rfl) (by kernel_rfl) (by kernel_rfl) (fun _ _ _ h => h) (Or.inl ⟨by rfl, fun wq hSw => ?y11n⟩) (by assumption) ?r11n
    case y11n => ((try dsimp only at hSw); go_simp; try with_reducible rfl)
    try simp only [Act.put, List.setIfInBounds_toArray, List.set_cons_zero, List.set_cons_succ, List.getElem_toArray, List.getElem_cons_zero, List.getElem_cons_succ]
    refine wpAnyH_take (i := 12) (v := ?v12n) rfl (by kernel_rfl) (by kernel_rfl) (by kernel_rfl) (fun _ _ _ h => h) (Or.inl ⟨by rfl, fun wq hSw => ?y12n⟩) (by assumption) ?r12n
    case y12n => ((try dsimp only at hSw); go_simp; try with_reducible rfl)
    try simp only [Act.put, List.setIfInBounds_toArray, List.set_cons_zero, List.set_cons_succ, List.getElem_toArray, List.getElem_cons_zero, List.getElem_cons_succ]
    refine wpAnyH_take (i := 13) (v := ?v13n) rfl (by kernel_rfl) (by kernel_rfl) (by kernel_rfl) (fun _ _ _ h => h) (Or.inl ⟨by rfl, fun wq hSw => ?y13n⟩) (by assumption) ?r13n
    case y13n => ((try dsimp only at hSw); go_simp; try with_reducible rfl)
    try simp only [Act.put, List.setIfInBounds_toArray, List.set_cons_zero, List.set_cons_succ, List.getElem_toArray, List.getElem_cons_zero, List.getElem_cons_succ]
    clear ew et
    refine wpAnyH_ready (rs := [14, 15]) (by kernel_rfl) (by simp) ?_
    refine AllReadyH.cons (by rfl) (fun K hK => ?_) ?_
    · rw [if_pos (by rfl)]
      go_wp2_with fail
      refine (HJ.out _ HG0.out).mono ?_
      rintro e w5 ⟨hb5, lv, rfl, hMl⟩
      obtain ⟨tyl, bl, rfl⟩ := NK_form ((NK d).K_of_M hMl)
      have HB5 := Aside0.mk (HG0.out.trans (hb5.mono HG0.out.size))
      refine hK.out _ _ (HSK.out _ HB5.out) (fun hHeld2 => ?_)
      clear hK hHeld K
      have hHeld := hHeld2
      clear hHeld2
      try simp only [Act.put, List.setIfInBounds_toArray, List.set_cons_zero, List.set_cons_succ, List.getElem_toArray, List.getElem_cons_zero, List.getElem_cons_succ]
      refine wpAnyH_ready (rs := [15]) (by kernel_rfl) (by simp) ?_
      refine AllReadyH.cons (by rfl) (fun K hK => ?_) AllReadyH.nil
      rw [if_pos (by rfl)]
      go_wp2_with fail
      have hba := below_mk (Below.refl w5.heap.size w5) (.cells #[.nilIface, .string ⟨#[]⟩, .nilIface] 107)
      have HB6 := Aside0.mk (HB5.out.trans (hba.mono HB5.out.size))
      have HH6 := Aside0.mk (heap_alloc_new w5 (.cells #[.nilIface, .string ⟨#[]⟩, .nilIface] 107))
      have hs5 := HB5.out.size
      have HMl := Aside0.mk (M_below' hMl hba)
      refine hK.out _ _ (HSK.out _ HB6.out) (fun hHeld2 => ?_)
      clear hK hHeld K
      have hHeld := hHeld2
      clear hHeld2
      try simp only [Act.put, List.setIfInBounds_toArray, List.set_cons_zero, List.set_cons_succ, List.getElem_toArray, List.getElem_cons_zero, List.getElem_cons_succ]
      have hws : w.heap.size ≤ w5.heap.size := hs5
      have HOFF : Aside0 ((NK d).M (w5.alloc (.cells #[.nilIface, .string ⟨#[]⟩, .nilIface] 107)) 0 (fun k => ok k ∧ k ≠ w5.heap.size) s1 [.iface tyl (.pointer (some ⟨bl, 0, none⟩))]) := ⟨M_below' (M_off hMl) hba⟩
      clear hMl hba hb5 HB5 hs5 HMl
      obtain ⟨sb, esb⟩ : ∃ sb, sb = w5.heap.size := ⟨_, rfl⟩
      rw [← esb] at HH6 HOFF hws ⊢
      clear esb
      generalize w5.alloc (.cells #[.nilIface, .string ⟨#[]⟩, .nilIface] 107) = W6 at *
      refine wpAnyH_ready (rs := [16]) (by kernel_rfl) (by simp) ?_
      refine AllReadyH.cons (by rfl) (fun K hK => ?_) AllReadyH.nil
      rw [if_pos (by rfl)]
      obtain ⟨⟨q0, q1, q2⟩, p0, p1, p2⟩ := ResBox.cells (r := sb) HH6.out
      go_wp2_with fail
      have hg7 : W6.grownBy (((W6.setCell ⟨sb, 0, none⟩ (.iface tyl (.pointer (some ⟨bl, 0, none⟩)))).setCell ⟨sb, 1, none⟩ (.string ⟨#[]⟩)).setCell ⟨sb, 2, none⟩ .nilIface) (some sb) := gb_split _ _ _
      have HB7 : Aside0 (Below w.heap.size w (((W6.setCell ⟨sb, 0, none⟩ (.iface tyl (.pointer (some ⟨bl, 0, none⟩)))).setCell ⟨sb, 1, none⟩ (.string ⟨#[]⟩)).setCell ⟨sb, 2, none⟩ .nilIface)) := ⟨HB6.out.trans (grownBy_below hg7 HB6.out.size (fun k e => by injection e with e; omega))⟩
      have HH7 : Aside0 ((((W6.setCell ⟨sb, 0, none⟩ (.iface tyl (.pointer (some ⟨bl, 0, none⟩)))).setCell ⟨sb, 1, none⟩ (.string ⟨#[]⟩)).setCell ⟨sb, 2, none⟩ .nilIface).heap[sb]? = some (.cells #[.iface tyl (.pointer (some ⟨bl, 0, none⟩)), .string ⟨#[]⟩, .nilIface] 107 (0, 0))) := ⟨(blk_set (blk_set (blk_set HH6.out 0 _) 1 _) 2 _).trans rfl⟩
      have HL7 : Aside0 ((NK d).M (((W6.setCell ⟨sb, 0, none⟩ (.iface tyl (.pointer (some ⟨bl, 0, none⟩)))).setCell ⟨sb, 1, none⟩ (.string ⟨#[]⟩)).setCell ⟨sb, 2, none⟩ .nilIface) 0 ok s1 [.iface tyl (.pointer (some ⟨bl, 0, none⟩))]) := ⟨M_on HOFF.out hg7⟩
      refine hK.out _ _ (HSK.out _ HB7.out) (fun hHeld2 => ?_)
      clear hK hHeld hHeld2 K
      try simp only [Act.put, List.setIfInBounds_toArray, List.set_cons_zero, List.set_cons_succ, List.getElem_toArray, List.getElem_cons_zero, List.getElem_cons_succ]
      refine wpAnyH_done (by kernel_rfl) ?_ _
      clear q0 q1 q2 p0 p1 p2 hg7 HH6 HOFF HB6
      generalize (((W6.setCell ⟨sb, 0, none⟩ (.iface tyl (.pointer (some ⟨bl, 0, none⟩)))).setCell ⟨sb, 1, none⟩ (.string ⟨#[]⟩)).setCell ⟨sb, 2, none⟩ .nilIface) = W7 at *
      have y0 : W7.cell? ⟨sb, 0, none⟩ = some (.iface tyl (.pointer (some ⟨bl, 0, none⟩))) := (blk_cell HH7.out 0).trans rfl
      go_wp2_with fail
      refine (HC1.out _ _ _ HB7.out).mono ?_
      rintro e w8 ⟨v8, rfl, ho8, hb8⟩
      obtain ⟨g, cap, cur, rfl, hgb, hh8, hnc, hcm, hcl2, htk⟩ := row_parts_node ho8 (by omega)
      have hcap : cap ≤ 9223372036854775807 := by unfold maxLen at hcm; omega
      have HB8 := Aside0.mk (HB7.out.trans (hb8.mono HB7.out.size))
      have HL8 := Aside0.mk (M_below' ((NK d).M_bound HL7.out) hb8)
      have hs7 := HB7.out.size
      have HGB := Aside0.mk hgb
      have hsb : sb < W7.heap.size := blk_lt HH7.out
      have z2 : w8.cell? ⟨sb, 2, none⟩ = some .nilIface := pw_cell_below hb8 ((blk_cell HH7.out 2).trans rfl)
      have HH8 := Aside0.mk hh8
      have HTK := Aside0.mk htk
      have HCL := Aside0.mk hcl2
      clear y0 ho8 hh8 htk hcl2 hcm hgb hb8
      go_wp2_with fail
      refine (HC2.out _ HB8.out).mono ?_
      rintro e w9 ⟨v9, rfl, ho9, hb9⟩
      obtain ⟨A9, c9, rfl, _, hc9m, _, _⟩ := own_cells ho9
      have HH9 := Aside0.mk ((hb9.block _ (blk_lt HH8.out)).trans HH8.out)
      have HB9 := Aside0.mk (HB8.out.trans (hb9.mono HB8.out.size))
      have HO9 := Aside0.mk ho9
      have HL9 := Aside0.mk (M_below' HL8.out hb9)
      have HGW := Aside0.mk (blk_lt HH8.out)
      have hs8 := HB8.out.size
      have HD := Aside0.mk (delete_node W7.heap.size g cs.length cap (i + 1) cur w9 HGB.out HH9.out hnc hcap HCL.out hi (by rw [HTK.out]; intro u hu; rcases List.mem_or_eq_of_mem_set hu with hu | rfl; exact HONE.out u hu; rfl))
      rw [HTK.out, show (((i + 1 : Nat)) : Int) = ((i : Nat) : Int) + 1 by omega, show ((i : Nat) : Int) + 1 + 1 = ((i : Nat) : Int) + 2 by omega] at HD
      clear ho9 hb9 HH8 HH9 HTK HCL z2
      go_wp2_with fail
      refine HD.out.mono ?_
      rintro e w10 ⟨rfl, ho10, hg10⟩
      have HB10 := Aside0.mk (HB9.out.trans (grownBy_below hg10 HB9.out.size (fun k e => by injection e with e; have := HGB.out; omega)))
      have hL10 := M_step' HL9.out hg10 (fun hk => by have := hk.2.2.1; have := HGB.out; omega)
      have hL10 := (NK d).M_mono (fun k hk => hk.1) hL10
      have hE10 := Elems_erase ((Elems_below HVE.out HB10.out).set i hL10) (i + 1)
      have hss : sizes ((cs.set i s1).eraseIdx (i + 1)) ≤ 1099511627776 := by
        have h1 := HSUM.out s1
        have h2 : size d s1 + 0 = size d cs[i] + size d cs[i + 1] := HJS.out
        omega
      have HN := Aside0.mk (newInner_calls (SRow_mk (own_kept HO9.out hg10 HGW.out) (fun k h => HOK.out k (Nat.le_trans hs8 h))) (CRow_mk ho10 hE10 (fun k h => HOK.out k (Nat.le_trans hs7 h))) (fun k h => HOK.out k (Nat.le_trans HB10.out.size h)) hss)
      clear ho10 hg10 hL10 hE10 hss HD HO9 HL9 HB9
      go_wp2_with fail
      refine HN.out.mono ?_
      rintro e w11 ⟨b11, rfl, hb11, hM11, hB11⟩
      have HFIN : Aside0 (w.heap.size ≤ b11 ∧ (NK (d + 1)).M w11 0 ok ((ks.eraseIdx i, (cs.set i s1).eraseIdx (i + 1)) : List ByteArray × List (T d)) [.iface 78 (.pointer (some ⟨b11, 0, none⟩))] ∧ Below w.heap.size w w11) := ⟨Nat.le_trans HB10.out.size hb11, hM11, HB10.out.trans (hB11.mono HB10.out.size)⟩
      clear hb11 hM11 hB11 HN HB10
      go_wp2
      go_ret
      exact ⟨78, b11, rfl, HFIN.out⟩
    refine AllReadyH.cons (by rfl) (fun K hK => ?_) AllReadyH.nil
    rw [if_pos (by rfl)]
    go_wp2_with fail
    have hba := below_mk (Below.refl W0.heap.size W0) (.cells #[.nilIface, .string ⟨#[]⟩, .nilIface] 107)
    have HB1 := Aside0.mk (HG0.out.trans (hba.mono HG0.out.size))
    have HH1 := Aside0.mk (heap_alloc_new W0 (.cells #[.nilIface, .string ⟨#[]⟩, .nilIface] 107))
    have hws : w.heap.size ≤ W0.heap.size := HG0.out.size
    refine hK.out _ _ (HSK.out _ HB1.out) (fun hHeld2 => ?_)
    clear hK hHeld K
    have hHeld := hHeld2
    clear hHeld2
    try simp only [Act.put, List.setIfInBounds_toArray, List.set_cons_zero, List.set_cons_succ, List.getElem_toArray, List.getElem_cons_zero, List.getElem_cons_succ]
    obtain ⟨sb, esb⟩ : ∃ sb, sb = W0.heap.size := ⟨_, rfl⟩
    rw [← esb] at HH1 hws ⊢
    clear esb hba
    generalize W0.alloc (.cells #[.nilIface, .string ⟨#[]⟩, .nilIface] 107) = W1 at *
    refine wpAnyH_ready (rs := [14]) (by kernel_rfl) (by simp) ?_
    refine AllReadyH.cons (by rfl) (fun K hK => ?_) AllReadyH.nil
    rw [if_pos (by rfl)]
    go_wp2_with fail
    refine (HJB.out _ sb HB1.out HH1.out hws).mono ?_
    rintro e W6 ⟨hb5, lv, rfl, hMl⟩
    obtain ⟨tyl, bl, rfl⟩ := NK_form ((NK d).K_of_M hMl)
    have HB6 := Aside0.mk (HB1.out.trans (hb5.mono HB1.out.size))
    have HH6 := Aside0.mk ((hb5.block _ (blk_lt HH1.out)).trans HH1.out)
    have HOFF := Aside0.mk hMl
    refine hK.out _ _ (HSK.out _ HB6.out) (fun hHeld2 => ?_)
    clear hK hHeld K
    have hHeld := hHeld2
    clear hHeld2
    try simp only [Act.put, List.setIfInBounds_toArray, List.set_cons_zero, List.set_cons_succ, List.getElem_toArray, List.getElem_cons_zero, List.getElem_cons_succ]
    clear hMl hb5 HB1 HH1
    refine wpAnyH_ready (rs := [16]) (by kernel_rfl) (by simp) ?_
    refine AllReadyH.cons (by rfl) (fun K hK => ?_) AllReadyH.nil
    rw [if_pos (by rfl)]
    obtain ⟨⟨q0, q1, q2⟩, p0, p1, p2⟩ := ResBox.cells (r := sb) HH6.out
    go_wp2_with fail
    have hg7 : W6.grownBy (((W6.setCell ⟨sb, 0, none⟩ (.iface tyl (.pointer (some ⟨bl, 0, none⟩)))).setCell ⟨sb, 1, none⟩ (.string ⟨#[]⟩)).setCell ⟨sb, 2, none⟩ .nilIface) (some sb) := gb_split _ _ _
    have HB7 : Aside0 (Below w.heap.size w (((W6.setCell ⟨sb, 0, none⟩ (.iface tyl (.pointer (some ⟨bl, 0, none⟩)))).setCell ⟨sb, 1, none⟩ (.string ⟨#[]⟩)).setCell ⟨sb, 2, none⟩ .nilIface)) := ⟨HB6.out.trans (grownBy_below hg7 HB6.out.size (fun k e => by injection e with e; omega))⟩
    have HH7 : Aside0 ((((W6.setCell ⟨sb, 0, none⟩ (.iface tyl (.pointer (some ⟨bl, 0, none⟩)))).setCell ⟨sb, 1, none⟩ (.string ⟨#[]⟩)).setCell ⟨sb, 2, none⟩ .nilIface).heap[sb]? = some (.cells #[.iface tyl (.pointer (some ⟨bl, 0, none⟩)), .string ⟨#[]⟩, .nilIface] 107 (0, 0))) := ⟨(blk_set (blk_set (blk_set HH6.out 0 _) 1 _) 2 _).trans rfl⟩
    have HL7 : Aside0 ((NK d).M (((W6.setCell ⟨sb, 0, none⟩ (.iface tyl (.pointer (some ⟨bl, 0, none⟩)))).setCell ⟨sb, 1, none⟩ (.string ⟨#[]⟩)).setCell ⟨sb, 2, none⟩ .nilIface) 0 ok s1 [.iface tyl (.pointer (some ⟨bl, 0, none⟩))]) := ⟨M_on HOFF.out hg7⟩
    refine hK.out _ _ (HSK.out _ HB7.out) (fun hHeld2 => ?_)
    clear hK hHeld hHeld2 K
    try simp only [Act.put, List.setIfInBounds_toArray, List.set_cons_zero, List.set_cons_succ, List.getElem_toArray, List.getElem_cons_zero, List.getElem_cons_succ]
    refine wpAnyH_done (by kernel_rfl) ?_ _
    clear q0 q1 q2 p0 p1 p2 hg7 HH6 HOFF HB6
    generalize (((W6.setCell ⟨sb, 0, none⟩ (.iface tyl (.pointer (some ⟨bl, 0, none⟩)))).setCell ⟨sb, 1, none⟩ (.string ⟨#[]⟩)).setCell ⟨sb, 2, none⟩ .nilIface) = W7 at *
    have y0 : W7.cell? ⟨sb, 0, none⟩ = some (.iface tyl (.pointer (some ⟨bl, 0, none⟩))) := (blk_cell HH7.out 0).trans rfl
    go_wp2_with fail
    refine (HC1.out _ _ _ HB7.out).mono ?_
    rintro e w8 ⟨v8, rfl, ho8, hb8⟩
    obtain ⟨g, cap, cur, rfl, hgb, hh8, hnc, hcm, hcl2, htk⟩ := row_parts_node ho8 (by omega)
    have hcap : cap ≤ 9223372036854775807 := by unfold maxLen at hcm; omega
    have HB8 := Aside0.mk (HB7.out.trans (hb8.mono HB7.out.size))
    have HL8 := Aside0.mk (M_below' ((NK d).M_bound HL7.out) hb8)
    have hs7 := HB7.out.size
    have HGB := Aside0.mk hgb
    have hsb : sb < W7.heap.size := blk_lt HH7.out
    have z2 : w8.cell? ⟨sb, 2, none⟩ = some .nilIface := pw_cell_below hb8 ((blk_cell HH7.out 2).trans rfl)
    have HH8 := Aside0.mk hh8
    have HTK := Aside0.mk htk
    have HCL := Aside0.mk hcl2
    clear y0 ho8 hh8 htk hcl2 hcm hgb hb8
    go_wp2_with fail
    refine (HC2.out _ HB8.out).mono ?_
    rintro e w9 ⟨v9, rfl, ho9, hb9⟩
    obtain ⟨A9, c9, rfl, _, hc9m, _, _⟩ := own_cells ho9
    have HH9 := Aside0.mk ((hb9.block _ (blk_lt HH8.out)).trans HH8.out)
    have HB9 := Aside0.mk (HB8.out.trans (hb9.mono HB8.out.size))
    have HO9 := Aside0.mk ho9
    have HL9 := Aside0.mk (M_below' HL8.out hb9)
    have HGW := Aside0.mk (blk_lt HH8.out)
    have hs8 := HB8.out.size
    have HD := Aside0.mk (delete_node W7.heap.size g cs.length cap (i + 1) cur w9 HGB.out HH9.out hnc hcap HCL.out hi (by rw [HTK.out]; intro u hu; rcases List.mem_or_eq_of_mem_set hu with hu | rfl; exact HONE.out u hu; rfl))
    rw [HTK.out, show (((i + 1 : Nat)) : Int) = ((i : Nat) : Int) + 1 by omega, show ((i : Nat) : Int) + 1 + 1 = ((i : Nat) : Int) + 2 by omega] at HD
    clear ho9 hb9 HH8 HH9 HTK HCL z2
    go_wp2_with fail
    refine HD.out.mono ?_
    rintro e w10 ⟨rfl, ho10, hg10⟩
    have HB10 := Aside0.mk (HB9.out.trans (grownBy_below hg10 HB9.out.size (fun k e => by injection e with e; have := HGB.out; omega)))
    have hL10 := M_step' HL9.out hg10 (fun hk => by have := hk.2.2.1; have := HGB.out; omega)
    have hL10 := (NK d).M_mono (fun k hk => hk.1) hL10
    have hE10 := Elems_erase ((Elems_below HVE.out HB10.out).set i hL10) (i + 1)
    have hss : sizes ((cs.set i s1).eraseIdx (i + 1)) ≤ 1099511627776 := by
      have h1 := HSUM.out s1
      have h2 : size d s1 + 0 = size d cs[i] + size d cs[i + 1] := HJS.out
      omega
    have HN := Aside0.mk (newInner_calls (SRow_mk (own_kept HO9.out hg10 HGW.out) (fun k h => HOK.out k (Nat.le_trans hs8 h))) (CRow_mk ho10 hE10 (fun k h => HOK.out k (Nat.le_trans hs7 h))) (fun k h => HOK.out k (Nat.le_trans HB10.out.size h)) hss)
    clear ho10 hg10 hL10 hE10 hss HD HO9 HL9 HB9
    go_wp2_with fail
    refine HN.out.mono ?_
    rintro e w11 ⟨b11, rfl, hb11, hM11, hB11⟩
    have HFIN : Aside0 (w.heap.size ≤ b11 ∧ (NK (d + 1)).M w11 0 ok ((ks.eraseIdx i, (cs.set i s1).eraseIdx (i + 1)) : List ByteArray × List (T d)) [.iface 78 (.pointer (some ⟨b11, 0, none⟩))] ∧ Below w.heap.size w w11) := ⟨Nat.le_trans HB10.out.size hb11, hM11, HB10.out.trans (hB11.mono HB10.out.size)⟩
    clear hb11 hM11 hB11 HN HB10
    go_wp2
    go_ret
    exact ⟨78, b11, rfl, HFIN.out⟩
  · go_enter Try.func67, Try.ntmps67
    go_wp2
    refine wp_region_held_drew (S := fun W' => (W'.cell? ⟨gc, i, none⟩ = some (.iface tya (.pointer (some ⟨baa, 0, none⟩))) ∧ W'.cell? ⟨gc, i + 1, none⟩ = some (.iface tyb (.pointer (some ⟨bbb, 0, none⟩))) ∧ W'.cell? ⟨gk, i, none⟩ = some (.string mid0)) ∧ Below w.heap.size w W') (by kernel_rfl) (HSK.out _ (below_drew (Below.refl _ _))) (fun hHeld => ?_)
    have HG0 := Aside0.mk (below_drew (Below.refl w.heap.size w))
    generalize w.drew = W0 at *
    have et : (((i : Nat) : Int) + 1).toNat = i + 1 := by omega
    have ew : IntKind.i64.wrap (((i : Nat) : Int) + 1) = ((i : Nat) : Int) + 1 := by rw [IntKind.wrap_i64]; omega
    refine wpAnyH_take (i := 0) (v := ?v0s) rfl (by kernel_rfl) (by kernel_rfl) (by kernel_rfl) (fun _ _ _ h => h) (Or.inl ⟨by rfl, fun wq hSw => ?y0s⟩) (by assumption) ?r0s
    case y0s => ((try dsimp only at hSw); go_simp; try with_reducible rfl)
    try simp only [Act.put, List.setIfInBounds_toArray, List.set_cons_zero, List.set_cons_succ, List.getElem_toArray, List.getElem_cons_zero, List.getElem_cons_succ]
    refine wpAnyH_take (i := 1) (v := ?v1s) rfl (by kernel_rfl) (by kernel_rfl) (by kernel_rfl) (fun _ _ _ h => h) (Or.inl ⟨by rfl, fun wq hSw => ?y1s⟩) (by assumption) ?r1s
    case y1s => ((try dsimp only at hSw); go_simp; try with_reducible rfl)
    try simp only [Act.put, List.setIfInBounds_toArray, List.set_cons_zero, List.set_cons_succ, List.getElem_toArray, List.getElem_cons_zero, List.getElem_cons_succ]
    refine wpAnyH_take (i := 2) (v := ?v2s) rfl (by kernel_rfl) (by kernel_rfl) (by kernel_rfl) (fun _ _ _ h => h) (Or.inl ⟨by rfl, fun wq hSw => ?y2s⟩) (by assumption) ?r2s
    case y2s => ((try dsimp only at hSw); go_simp; try with_reducible rfl)
    try simp only [Act.put, List.setIfInBounds_toArray, List.set_cons_zero, List.set_cons_succ, List.getElem_toArray, List.getElem_cons_zero, List.getElem_cons_succ]
    refine wpAnyH_take (i := 3) (v := ?v3s) rfl (by kernel_rfl) (by kernel_rfl) (by kernel_rfl) (fun _ _ _ h => h) (Or.inl ⟨by rfl, fun wq hSw => ?y3s⟩) (by assumption) ?r3s
    case y3s => ((try dsimp only at hSw); go_simp; try with_reducible rfl)
    try simp only [Act.put, List.setIfInBounds_toArray, List.set_cons_zero, List.set_cons_succ, List.getElem_toArray, List.getElem_cons_zero, List.getElem_cons_succ]
    refine wpAnyH_take (i := 4) (v := ?v4s) rfl (by kernel_rfl) (by kernel_rfl) (by kernel_rfl) (fun _ _ _ h => h) (Or.inl ⟨by rfl, fun wq hSw => ?y4s⟩) (by assumption) ?r4s
    case y4s => ((try dsimp only at hSw); go_simp; try with_reducible rfl)
    try simp only [Act.put, List.setIfInBounds_toArray, List.set_cons_zero, List.set_cons_succ, List.getElem_toArray, List.getElem_cons_zero, List.getElem_cons_succ]
    refine wpAnyH_take (i := 5) (v := ?v5s) rfl (by kernel_rfl) (by kernel_rfl) (by kernel_rfl) (fun _ _ _ h => h) (Or.inl ⟨by rfl, fun wq hSw => ?y5s⟩) (by assumption) ?r5s
    case y5s => ((try dsimp only at hSw); go_simp; try with_reducible rfl)
    try simp only [Act.put, List.setIfInBounds_toArray, List.set_cons_zero, List.set_cons_succ, List.getElem_toArray, List.getElem_cons_zero, List.getElem_cons_succ]
    refine wpAnyH_take (i := 6) (v := ?v6s) rfl (by kernel_rfl) (by kernel_rfl) (by kernel_rfl) (fun _ _ _ h => h) (Or.inl ⟨by rfl, fun wq hSw => ?y6s⟩) (by assumption) ?r6s
    case y6s => ((try dsimp only at hSw); go_simp; try with_reducible rfl)
    try simp only [Act.put, List.setIfInBounds_toArray, List.set_cons_zero, List.set_cons_succ, List.getElem_toArray, List.getElem_cons_zero, List.getElem_cons_succ]
    refine wpAnyH_take (i := 7) (v := ?v7s) rfl (by kernel_rfl) (by kernel_rfl) (by kernel_rfl) (fun _ _ _ h => h) (Or.inl ⟨by rfl, fun wq hSw => ?y7s⟩) (by assumption) ?r7s
    case y7s => ((try dsimp only at hSw); go_simp; try with_reducible rfl)
    try simp only [Act.put, List.setIfInBounds_toArray, List.set_cons_zero, List.set_cons_succ, List.getElem_toArray, List.getElem_cons_zero, List.getElem_cons_succ]
    refine wpAnyH_take (i := 8) (v := ?v8s) rfl (by kernel_rfl) (by kernel_rfl) (by kernel_rfl) (fun _ _ _ h => h) (Or.inl ⟨by rfl, fun wq hSw => ?y8s⟩) (by assumption) ?r8s
    case y8s => ((try dsimp only at hSw); go_simp; try with_reducible rfl)
    try simp only [Act.put, List.setIfInBounds_toArray, List.set_cons_zero, List.set_cons_succ, List.getElem_toArray, List.getElem_cons_zero, List.getElem_cons_succ]
    refine wpAnyH_take (i := 9) (v := ?v9s) rfl (by kernel_rfl) (by kernel_rfl) (by kernel_rfl) (fun _ _ _ h => h) (Or.inl ⟨by rfl, fun wq hSw => ?y9s⟩) (by assumption) ?r9s
    case y9s => ((try dsimp only at hSw); go_simp; try with_reducible rfl)
    try simp only [Act.put, List.setIfInBounds_toArray, List.set_cons_zero, List.set_cons_succ, List.getElem_toArray, List.getElem_cons_zero, List.getElem_cons_succ]
    refine wpAnyH_take (i := 10) (v := ?v10s) rfl (by kernel_rfl) (by kernel_rfl) (by kernel_rfl) (fun _ _ _ h => h) (Or.inl ⟨by rfl, fun wq hSw => ?y10s⟩) (by assumption) ?r10s
    case y10s => ((try dsimp only at hSw); go_simp; try with_reducible rfl)
    try simp only [Act.put, List.setIfInBounds_toArray, List.set_cons_zero, List.set_cons_succ, List.getElem_toArray, List.getElem_cons_zero, List.getElem_cons_succ]
    refine wpAnyH_take (i := 11) (v := ?v11s) rfl (by kernel_rfl) (by kernel_rfl) (by kernel_rfl) (fun _ _ _ h => h) (Or.inl ⟨by rfl, fun wq hSw => ?y11s⟩) (by assumption) ?r11s
    case y11s => ((try dsimp only at hSw); go_simp; try with_reducible rfl)
    try simp only [Act.put, List.setIfInBounds_toArray, List.set_cons_zero, List.set_cons_succ, List.getElem_toArray, List.getElem_cons_zero, List.getElem_cons_succ]
    refine wpAnyH_take (i := 12) (v := ?v12s) rfl (by kernel_rfl) (by kernel_rfl) (by kernel_rfl) (fun _ _ _ h => h) (Or.inl ⟨by rfl, fun wq hSw => ?y12s⟩) (by assumption) ?r12s
    case y12s => ((try dsimp only at hSw); go_simp; try with_reducible rfl)
    try simp only [Act.put, List.setIfInBounds_toArray, List.set_cons_zero, List.set_cons_succ, List.getElem_toArray, List.getElem_cons_zero, List.getElem_cons_succ]
    refine wpAnyH_take (i := 13) (v := ?v13s) rfl (by kernel_rfl) (by kernel_rfl) (by kernel_rfl) (fun _ _ _ h => h) (Or.inl ⟨by rfl, fun wq hSw => ?y13s⟩) (by assumption) ?r13s
    case y13s => ((try dsimp only at hSw); go_simp; try with_reducible rfl)
    try simp only [Act.put, List.setIfInBounds_toArray, List.set_cons_zero, List.set_cons_succ, List.getElem_toArray, List.getElem_cons_zero, List.getElem_cons_succ]
    clear ew et
    refine wpAnyH_ready (rs := [14, 15]) (by kernel_rfl) (by simp) ?_
    refine AllReadyH.cons (by rfl) (fun K hK => ?_) ?_
    · rw [if_pos (by rfl)]
      go_wp2_with fail
      refine (HJ.out _ HG0.out).mono ?_
      rintro e w5 ⟨hb5, lv, rv, rfl, hMl, hMr⟩
      obtain ⟨tyl, bl, rfl⟩ := NK_form ((NK d).K_of_M hMl)
      obtain ⟨tyr, br, rfl⟩ := NK_form ((NK d).K_of_M hMr)
      have HB5 := Aside0.mk (HG0.out.trans (hb5.mono HG0.out.size))
      refine hK.out _ _ (HSK.out _ HB5.out) (fun hHeld2 => ?_)
      clear hK hHeld K
      have hHeld := hHeld2
      clear hHeld2
      try simp only [Act.put, List.setIfInBounds_toArray, List.set_cons_zero, List.set_cons_succ, List.getElem_toArray, List.getElem_cons_zero, List.getElem_cons_succ]
      refine wpAnyH_ready (rs := [15]) (by kernel_rfl) (by simp) ?_
      refine AllReadyH.cons (by rfl) (fun K hK => ?_) AllReadyH.nil
      rw [if_pos (by rfl)]
      go_wp2_with fail
      have hba := below_mk (Below.refl w5.heap.size w5) (.cells #[.nilIface, .string ⟨#[]⟩, .nilIface] 107)
      have HB6 := Aside0.mk (HB5.out.trans (hba.mono HB5.out.size))
      have HH6 := Aside0.mk (heap_alloc_new w5 (.cells #[.nilIface, .string ⟨#[]⟩, .nilIface] 107))
      have hs5 := HB5.out.size
      have HMl := Aside0.mk (M_below' hMl hba)
      have HMr := Aside0.mk (M_below' hMr hba)
      refine hK.out _ _ (HSK.out _ HB6.out) (fun hHeld2 => ?_)
      clear hK hHeld K
      have hHeld := hHeld2
      clear hHeld2
      try simp only [Act.put, List.setIfInBounds_toArray, List.set_cons_zero, List.set_cons_succ, List.getElem_toArray, List.getElem_cons_zero, List.getElem_cons_succ]
      have hws : w.heap.size ≤ w5.heap.size := hs5
      have HOFF : Aside0 ((NK d).M (w5.alloc (.cells #[.nilIface, .string ⟨#[]⟩, .nilIface] 107)) 0 (fun k => ok k ∧ k ≠ w5.heap.size) s1 [.iface tyl (.pointer (some ⟨bl, 0, none⟩))]) := ⟨M_below' (M_off hMl) hba⟩
      have HOFR : Aside0 ((NK d).M (w5.alloc (.cells #[.nilIface, .string ⟨#[]⟩, .nilIface] 107)) 0 (fun k => ok k ∧ k ≠ w5.heap.size) s2 [.iface tyr (.pointer (some ⟨br, 0, none⟩))]) := ⟨M_below' (M_off hMr) hba⟩
      clear hMl hba hb5 HB5 hs5 HMl hMr HMr
      obtain ⟨sb, esb⟩ : ∃ sb, sb = w5.heap.size := ⟨_, rfl⟩
      rw [← esb] at HH6 HOFF hws ⊢
      rw [← esb] at HOFR
      clear esb
      generalize w5.alloc (.cells #[.nilIface, .string ⟨#[]⟩, .nilIface] 107) = W6 at *
      refine wpAnyH_ready (rs := [16]) (by kernel_rfl) (by simp) ?_
      refine AllReadyH.cons (by rfl) (fun K hK => ?_) AllReadyH.nil
      rw [if_pos (by rfl)]
      obtain ⟨⟨q0, q1, q2⟩, p0, p1, p2⟩ := ResBox.cells (r := sb) HH6.out
      go_wp2_with fail
      have hg7 : W6.grownBy (((W6.setCell ⟨sb, 0, none⟩ (.iface tyl (.pointer (some ⟨bl, 0, none⟩)))).setCell ⟨sb, 1, none⟩ (.string mid2)).setCell ⟨sb, 2, none⟩ (.iface tyr (.pointer (some ⟨br, 0, none⟩)))) (some sb) := gb_split _ _ _
      have HB7 : Aside0 (Below w.heap.size w (((W6.setCell ⟨sb, 0, none⟩ (.iface tyl (.pointer (some ⟨bl, 0, none⟩)))).setCell ⟨sb, 1, none⟩ (.string mid2)).setCell ⟨sb, 2, none⟩ (.iface tyr (.pointer (some ⟨br, 0, none⟩))))) := ⟨HB6.out.trans (grownBy_below hg7 HB6.out.size (fun k e => by injection e with e; omega))⟩
      have HH7 : Aside0 ((((W6.setCell ⟨sb, 0, none⟩ (.iface tyl (.pointer (some ⟨bl, 0, none⟩)))).setCell ⟨sb, 1, none⟩ (.string mid2)).setCell ⟨sb, 2, none⟩ (.iface tyr (.pointer (some ⟨br, 0, none⟩)))).heap[sb]? = some (.cells #[.iface tyl (.pointer (some ⟨bl, 0, none⟩)), .string mid2, .iface tyr (.pointer (some ⟨br, 0, none⟩))] 107 (0, 0))) := ⟨(blk_set (blk_set (blk_set HH6.out 0 _) 1 _) 2 _).trans rfl⟩
      have HL7 : Aside0 ((NK d).M (((W6.setCell ⟨sb, 0, none⟩ (.iface tyl (.pointer (some ⟨bl, 0, none⟩)))).setCell ⟨sb, 1, none⟩ (.string mid2)).setCell ⟨sb, 2, none⟩ (.iface tyr (.pointer (some ⟨br, 0, none⟩)))) 0 ok s1 [.iface tyl (.pointer (some ⟨bl, 0, none⟩))]) := ⟨M_on HOFF.out hg7⟩
      have HR7 : Aside0 ((NK d).M (((W6.setCell ⟨sb, 0, none⟩ (.iface tyl (.pointer (some ⟨bl, 0, none⟩)))).setCell ⟨sb, 1, none⟩ (.string mid2)).setCell ⟨sb, 2, none⟩ (.iface tyr (.pointer (some ⟨br, 0, none⟩)))) 0 ok s2 [.iface tyr (.pointer (some ⟨br, 0, none⟩))]) := ⟨M_on HOFR.out hg7⟩
      refine hK.out _ _ (HSK.out _ HB7.out) (fun hHeld2 => ?_)
      clear hK hHeld hHeld2 K
      try simp only [Act.put, List.setIfInBounds_toArray, List.set_cons_zero, List.set_cons_succ, List.getElem_toArray, List.getElem_cons_zero, List.getElem_cons_succ]
      refine wpAnyH_done (by kernel_rfl) ?_ _
      clear q0 q1 q2 p0 p1 p2 hg7 HH6 HOFF HB6 HOFR
      generalize (((W6.setCell ⟨sb, 0, none⟩ (.iface tyl (.pointer (some ⟨bl, 0, none⟩)))).setCell ⟨sb, 1, none⟩ (.string mid2)).setCell ⟨sb, 2, none⟩ (.iface tyr (.pointer (some ⟨br, 0, none⟩)))) = W7 at *
      have y0 : W7.cell? ⟨sb, 0, none⟩ = some (.iface tyl (.pointer (some ⟨bl, 0, none⟩))) := (blk_cell HH7.out 0).trans rfl
      go_wp2_with fail
      refine (HC1.out _ _ _ HB7.out).mono ?_
      rintro e w8 ⟨v8, rfl, ho8, hb8⟩
      obtain ⟨g, cap, cur, rfl, hgb, hh8, hnc, hcm, hcl2, htk⟩ := row_parts_node ho8 (by omega)
      have hcap : cap ≤ 9223372036854775807 := by unfold maxLen at hcm; omega
      have HB8 := Aside0.mk (HB7.out.trans (hb8.mono HB7.out.size))
      have HL8 := Aside0.mk (M_below' ((NK d).M_bound HL7.out) hb8)
      have hs7 := HB7.out.size
      have HGB := Aside0.mk hgb
      have hsb : sb < W7.heap.size := blk_lt HH7.out
      have HR8 := Aside0.mk (M_below' ((NK d).M_bound HR7.out) hb8)
      have hl8 : (vs.set i (.iface tyl (.pointer (some ⟨bl, 0, none⟩)))).length = cs.length := by rw [List.length_set]; exact HVL.out
      have t1 : w8.cell? ⟨g, i + 1, none⟩ = some ((vs.set i (.iface tyl (.pointer (some ⟨bl, 0, none⟩))))[i + 1]'(by rw [hl8]; exact hi)) := by rw [ho8.cellAt (i + 1) (by omega), List.getElem?_eq_getElem]
      have t2 : w8.frozen? ⟨g, i + 1, none⟩ = false := ho8.frozenAt (i + 1)
      have z2 : w8.cell? ⟨sb, 2, none⟩ = some (.iface tyr (.pointer (some ⟨br, 0, none⟩))) := pw_cell_below hb8 ((blk_cell HH7.out 2).trans rfl)
      have hg9 : w8.grownBy (w8.setCell ⟨g, i + 1, none⟩ (.iface tyr (.pointer (some ⟨br, 0, none⟩)))) (some g) := gb_set (grownBy_refl _ _) _ _
      have HO9 := Aside0.mk (ho8.stored (i + 1) (.iface tyr (.pointer (some ⟨br, 0, none⟩)))).1
      have HB9 := Aside0.mk (HB8.out.trans (grownBy_below hg9 HB8.out.size (fun k e => by injection e with e; have := HGB.out; omega)))
      have HL9 := Aside0.mk (M_step' HL8.out hg9 (fun hk => by have := hk.2.2.1; have := HGB.out; omega))
      have HR9 := Aside0.mk (M_step' HR8.out hg9 (fun hk => by have := hk.2.2.1; have := HGB.out; omega))
      have z1 : (w8.setCell ⟨g, i + 1, none⟩ (.iface tyr (.pointer (some ⟨br, 0, none⟩)))).cell? ⟨sb, 1, none⟩ = some (.string mid2) := hg9.cell (pw_cell_below hb8 ((blk_cell HH7.out 1).trans rfl)) (fun e => by injection e with e; have e : sb = g := e; have := HGB.out; omega)
      generalize (vs.set i (.iface tyl (.pointer (some ⟨bl, 0, none⟩))))[i + 1]'(by rw [hl8]; exact hi) = old at t1
      clear y0 ho8 hh8 htk hcl2 hcm hgb hb8 hl8 hg9
      go_wp2_with fail
      generalize w8.setCell ⟨g, i + 1, none⟩ (.iface tyr (.pointer (some ⟨br, 0, none⟩))) = w9 at *
      refine (HC3.out _ _ HB9.out).mono ?_
      rintro e w10 ⟨v10, rfl, ho10, hb10⟩
      obtain ⟨A9, c9, rfl, _, hc9m, _, _⟩ := own_cells ho10
      have HB10 := Aside0.mk (HB9.out.trans (hb10.mono HB9.out.size))
      have hL10 := (NK d).M_mono (fun k hk => hk.1) (M_below' HL9.out hb10)
      have hR10 := (NK d).M_mono (fun k hk => hk.1) (M_below' HR9.out hb10)
      have hE10 := ((Elems_below HVE.out HB10.out).set i hL10).set (i + 1) hR10
      have hss : sizes ((cs.set i s1).set (i + 1) s2) ≤ 1099511627776 := by
        have h1 := HSUM2.out s1 s2
        have h2 : size d s1 + size d s2 = size d cs[i] + size d cs[i + 1] := HJS.out
        omega
      have hs9 := HB9.out.size
      have HN := Aside0.mk (newInner_calls (SRow_mk ho10 (fun k h => HOK.out k (Nat.le_trans hs9 h))) (CRow_mk (pw_own_below HO9.out hb10) hE10 (fun k h => HOK.out k (Nat.le_trans hs7 h))) (fun k h => HOK.out k (Nat.le_trans HB10.out.size h)) hss)
      clear ho10 hb10 hL10 hR10 hE10 hss HO9 HL9 HR9 HB9
      go_wp2_with fail
      refine HN.out.mono ?_
      rintro e w11 ⟨b11, rfl, hb11, hM11, hB11⟩
      have HFIN : Aside0 (w.heap.size ≤ b11 ∧ (NK (d + 1)).M w11 0 ok ((ks.set i mid2, (cs.set i s1).set (i + 1) s2) : List ByteArray × List (T d)) [.iface 78 (.pointer (some ⟨b11, 0, none⟩))] ∧ Below w.heap.size w w11) := ⟨Nat.le_trans HB10.out.size hb11, hM11, HB10.out.trans (hB11.mono HB10.out.size)⟩
      clear hb11 hM11 hB11 HN HB10
      go_wp2
      go_ret
      exact ⟨78, b11, rfl, HFIN.out⟩
    refine AllReadyH.cons (by rfl) (fun K hK => ?_) AllReadyH.nil
    rw [if_pos (by rfl)]
    go_wp2_with fail
    have hba := below_mk (Below.refl W0.heap.size W0) (.cells #[.nilIface, .string ⟨#[]⟩, .nilIface] 107)
    have HB1 := Aside0.mk (HG0.out.trans (hba.mono HG0.out.size))
    have HH1 := Aside0.mk (heap_alloc_new W0 (.cells #[.nilIface, .string ⟨#[]⟩, .nilIface] 107))
    have hws : w.heap.size ≤ W0.heap.size := HG0.out.size
    refine hK.out _ _ (HSK.out _ HB1.out) (fun hHeld2 => ?_)
    clear hK hHeld K
    have hHeld := hHeld2
    clear hHeld2
    try simp only [Act.put, List.setIfInBounds_toArray, List.set_cons_zero, List.set_cons_succ, List.getElem_toArray, List.getElem_cons_zero, List.getElem_cons_succ]
    obtain ⟨sb, esb⟩ : ∃ sb, sb = W0.heap.size := ⟨_, rfl⟩
    rw [← esb] at HH1 hws ⊢
    clear esb hba
    generalize W0.alloc (.cells #[.nilIface, .string ⟨#[]⟩, .nilIface] 107) = W1 at *
    refine wpAnyH_ready (rs := [14]) (by kernel_rfl) (by simp) ?_
    refine AllReadyH.cons (by rfl) (fun K hK => ?_) AllReadyH.nil
    rw [if_pos (by rfl)]
    go_wp2_with fail
    refine (HJB.out _ sb HB1.out HH1.out hws).mono ?_
    rintro e W6 ⟨hb5, lv, rv, rfl, hMl, hMr⟩
    obtain ⟨tyl, bl, rfl⟩ := NK_form ((NK d).K_of_M hMl)
    obtain ⟨tyr, br, rfl⟩ := NK_form ((NK d).K_of_M hMr)
    have HB6 := Aside0.mk (HB1.out.trans (hb5.mono HB1.out.size))
    have HH6 := Aside0.mk ((hb5.block _ (blk_lt HH1.out)).trans HH1.out)
    have HOFF := Aside0.mk hMl
    have HOFR := Aside0.mk hMr
    refine hK.out _ _ (HSK.out _ HB6.out) (fun hHeld2 => ?_)
    clear hK hHeld K
    have hHeld := hHeld2
    clear hHeld2
    try simp only [Act.put, List.setIfInBounds_toArray, List.set_cons_zero, List.set_cons_succ, List.getElem_toArray, List.getElem_cons_zero, List.getElem_cons_succ]
    clear hMl hb5 HB1 HH1 hMr
    refine wpAnyH_ready (rs := [16]) (by kernel_rfl) (by simp) ?_
    refine AllReadyH.cons (by rfl) (fun K hK => ?_) AllReadyH.nil
    rw [if_pos (by rfl)]
    obtain ⟨⟨q0, q1, q2⟩, p0, p1, p2⟩ := ResBox.cells (r := sb) HH6.out
    go_wp2_with fail
    have hg7 : W6.grownBy (((W6.setCell ⟨sb, 0, none⟩ (.iface tyl (.pointer (some ⟨bl, 0, none⟩)))).setCell ⟨sb, 1, none⟩ (.string mid2)).setCell ⟨sb, 2, none⟩ (.iface tyr (.pointer (some ⟨br, 0, none⟩)))) (some sb) := gb_split _ _ _
    have HB7 : Aside0 (Below w.heap.size w (((W6.setCell ⟨sb, 0, none⟩ (.iface tyl (.pointer (some ⟨bl, 0, none⟩)))).setCell ⟨sb, 1, none⟩ (.string mid2)).setCell ⟨sb, 2, none⟩ (.iface tyr (.pointer (some ⟨br, 0, none⟩))))) := ⟨HB6.out.trans (grownBy_below hg7 HB6.out.size (fun k e => by injection e with e; omega))⟩
    have HH7 : Aside0 ((((W6.setCell ⟨sb, 0, none⟩ (.iface tyl (.pointer (some ⟨bl, 0, none⟩)))).setCell ⟨sb, 1, none⟩ (.string mid2)).setCell ⟨sb, 2, none⟩ (.iface tyr (.pointer (some ⟨br, 0, none⟩)))).heap[sb]? = some (.cells #[.iface tyl (.pointer (some ⟨bl, 0, none⟩)), .string mid2, .iface tyr (.pointer (some ⟨br, 0, none⟩))] 107 (0, 0))) := ⟨(blk_set (blk_set (blk_set HH6.out 0 _) 1 _) 2 _).trans rfl⟩
    have HL7 : Aside0 ((NK d).M (((W6.setCell ⟨sb, 0, none⟩ (.iface tyl (.pointer (some ⟨bl, 0, none⟩)))).setCell ⟨sb, 1, none⟩ (.string mid2)).setCell ⟨sb, 2, none⟩ (.iface tyr (.pointer (some ⟨br, 0, none⟩)))) 0 ok s1 [.iface tyl (.pointer (some ⟨bl, 0, none⟩))]) := ⟨M_on HOFF.out hg7⟩
    have HR7 : Aside0 ((NK d).M (((W6.setCell ⟨sb, 0, none⟩ (.iface tyl (.pointer (some ⟨bl, 0, none⟩)))).setCell ⟨sb, 1, none⟩ (.string mid2)).setCell ⟨sb, 2, none⟩ (.iface tyr (.pointer (some ⟨br, 0, none⟩)))) 0 ok s2 [.iface tyr (.pointer (some ⟨br, 0, none⟩))]) := ⟨M_on HOFR.out hg7⟩
    refine hK.out _ _ (HSK.out _ HB7.out) (fun hHeld2 => ?_)
    clear hK hHeld hHeld2 K
    try simp only [Act.put, List.setIfInBounds_toArray, List.set_cons_zero, List.set_cons_succ, List.getElem_toArray, List.getElem_cons_zero, List.getElem_cons_succ]
    refine wpAnyH_done (by kernel_rfl) ?_ _
    clear q0 q1 q2 p0 p1 p2 hg7 HH6 HOFF HB6 HOFR
    generalize (((W6.setCell ⟨sb, 0, none⟩ (.iface tyl (.pointer (some ⟨bl, 0, none⟩)))).setCell ⟨sb, 1, none⟩ (.string mid2)).setCell ⟨sb, 2, none⟩ (.iface tyr (.pointer (some ⟨br, 0, none⟩)))) = W7 at *
    have y0 : W7.cell? ⟨sb, 0, none⟩ = some (.iface tyl (.pointer (some ⟨bl, 0, none⟩))) := (blk_cell HH7.out 0).trans rfl
    go_wp2_with fail
    refine (HC1.out _ _ _ HB7.out).mono ?_
    rintro e w8 ⟨v8, rfl, ho8, hb8⟩
    obtain ⟨g, cap, cur, rfl, hgb, hh8, hnc, hcm, hcl2, htk⟩ := row_parts_node ho8 (by omega)
    have hcap : cap ≤ 9223372036854775807 := by unfold maxLen at hcm; omega
    have HB8 := Aside0.mk (HB7.out.trans (hb8.mono HB7.out.size))
    have HL8 := Aside0.mk (M_below' ((NK d).M_bound HL7.out) hb8)
    have hs7 := HB7.out.size
    have HGB := Aside0.mk hgb
    have hsb : sb < W7.heap.size := blk_lt HH7.out
    have HR8 := Aside0.mk (M_below' ((NK d).M_bound HR7.out) hb8)
    have hl8 : (vs.set i (.iface tyl (.pointer (some ⟨bl, 0, none⟩)))).length = cs.length := by rw [List.length_set]; exact HVL.out
    have t1 : w8.cell? ⟨g, i + 1, none⟩ = some ((vs.set i (.iface tyl (.pointer (some ⟨bl, 0, none⟩))))[i + 1]'(by rw [hl8]; exact hi)) := by rw [ho8.cellAt (i + 1) (by omega), List.getElem?_eq_getElem]
    have t2 : w8.frozen? ⟨g, i + 1, none⟩ = false := ho8.frozenAt (i + 1)
    have z2 : w8.cell? ⟨sb, 2, none⟩ = some (.iface tyr (.pointer (some ⟨br, 0, none⟩))) := pw_cell_below hb8 ((blk_cell HH7.out 2).trans rfl)
    have hg9 : w8.grownBy (w8.setCell ⟨g, i + 1, none⟩ (.iface tyr (.pointer (some ⟨br, 0, none⟩)))) (some g) := gb_set (grownBy_refl _ _) _ _
    have HO9 := Aside0.mk (ho8.stored (i + 1) (.iface tyr (.pointer (some ⟨br, 0, none⟩)))).1
    have HB9 := Aside0.mk (HB8.out.trans (grownBy_below hg9 HB8.out.size (fun k e => by injection e with e; have := HGB.out; omega)))
    have HL9 := Aside0.mk (M_step' HL8.out hg9 (fun hk => by have := hk.2.2.1; have := HGB.out; omega))
    have HR9 := Aside0.mk (M_step' HR8.out hg9 (fun hk => by have := hk.2.2.1; have := HGB.out; omega))
    have z1 : (w8.setCell ⟨g, i + 1, none⟩ (.iface tyr (.pointer (some ⟨br, 0, none⟩)))).cell? ⟨sb, 1, none⟩ = some (.string mid2) := hg9.cell (pw_cell_below hb8 ((blk_cell HH7.out 1).trans rfl)) (fun e => by injection e with e; have e : sb = g := e; have := HGB.out; omega)
    generalize (vs.set i (.iface tyl (.pointer (some ⟨bl, 0, none⟩))))[i + 1]'(by rw [hl8]; exact hi) = old at t1
    clear y0 ho8 hh8 htk hcl2 hcm hgb hb8 hl8 hg9
    go_wp2_with fail
    generalize w8.setCell ⟨g, i + 1, none⟩ (.iface tyr (.pointer (some ⟨br, 0, none⟩))) = w9 at *
    refine (HC3.out _ _ HB9.out).mono ?_
    rintro e w10 ⟨v10, rfl, ho10, hb10⟩
    obtain ⟨A9, c9, rfl, _, hc9m, _, _⟩ := own_cells ho10
    have HB10 := Aside0.mk (HB9.out.trans (hb10.mono HB9.out.size))
    have hL10 := (NK d).M_mono (fun k hk => hk.1) (M_below' HL9.out hb10)
    have hR10 := (NK d).M_mono (fun k hk => hk.1) (M_below' HR9.out hb10)
    have hE10 := ((Elems_below HVE.out HB10.out).set i hL10).set (i + 1) hR10
    have hss : sizes ((cs.set i s1).set (i + 1) s2) ≤ 1099511627776 := by
      have h1 := HSUM2.out s1 s2
      have h2 : size d s1 + size d s2 = size d cs[i] + size d cs[i + 1] := HJS.out
      omega
    have hs9 := HB9.out.size
    have HN := Aside0.mk (newInner_calls (SRow_mk ho10 (fun k h => HOK.out k (Nat.le_trans hs9 h))) (CRow_mk (pw_own_below HO9.out hb10) hE10 (fun k h => HOK.out k (Nat.le_trans hs7 h))) (fun k h => HOK.out k (Nat.le_trans HB10.out.size h)) hss)
    clear ho10 hb10 hL10 hR10 hE10 hss HO9 HL9 HR9 HB9
    go_wp2_with fail
    refine HN.out.mono ?_
    rintro e w11 ⟨b11, rfl, hb11, hM11, hB11⟩
    have HFIN : Aside0 (w.heap.size ≤ b11 ∧ (NK (d + 1)).M w11 0 ok ((ks.set i mid2, (cs.set i s1).set (i + 1) s2) : List ByteArray × List (T d)) [.iface 78 (.pointer (some ⟨b11, 0, none⟩))] ∧ Below w.heap.size w w11) := ⟨Nat.le_trans HB10.out.size hb11, hM11, HB10.out.trans (hB11.mono HB10.out.size)⟩
    clear hb11 hM11 hB11 HN HB10
    go_wp2
    go_ret
    exact ⟨78, b11, rfl, HFIN.out⟩
end Go.Proofs.Ytjabcdfbncglnaa
namespace Go.Proofs.Ytjabcdfbncglnaa
open Go.RowKit Go.Proofs.YtjabcdfbncglnaaW.PrintWords Go.Proofs.YtjabcdfbncglnaaW.PrintLast Go.Proofs.YtjabcdfbncglnaaW.PrintMore
open PTreeRanks (S59 k59 z59)
set_option linter.unusedVariables false
set_option linter.unusedSimpArgs false

/-- What drop answers: the node itself, or a new one. -/
def DropPost (d : Nat) (v : Value) (ok : Nat → Prop) (w : World) (e : Ending) (w' : World) : Option (T d) → Prop
  | none => e = .returned v ∧ Below w.heap.size w w'
  | some t' => FreshPost d t' ok w e w'

theorem dropT_leaf (order : Nat) (l : List S59) (k : ByteArray) : dropT order 0 l k = if has (l.map S59.f0) k then some (List.eraseIdx (α := S59) l (rank (l.map S59.f0) k)) else none := rfl
theorem map_eraseIdx' {α β : Type} (f : α → β) (l : List α) (i : Nat) : (l.map f).eraseIdx i = (l.eraseIdx i).map f := by
  rw [List.eraseIdx_eq_take_drop_succ, List.eraseIdx_eq_take_drop_succ, List.map_append, List.map_take, List.map_drop]

set_option maxRecDepth 100000 in
set_option maxHeartbeats 8000000 in
theorem drop_leaf {l : List S59} {w : World} {ok : Nat → Prop} {bt order : Nat} {v : Value} (k : ByteArray) (h0 : w.cell? ⟨bt, 0, none⟩ = some (.int .i64 order)) (hM : (NK 0).M w 0 ok l [v]) (hS : Shape 0 l) (hok : ∀ k, w.heap.size ≤ k → ok k) :
    Calls Try.prog 50 #[.pointer (some ⟨bt, 0, none⟩), v, .string k] w (fun e w' => DropPost 0 v ok w e w' (dropT order 0 l k)) := by
  rw [dropT_leaf]
  obtain ⟨b, kv, vv, rfl, hb, hh, hk, hv⟩ := leaf_M.1 hM
  obtain ⟨hko, hkb⟩ := SRow_own hk
  obtain ⟨hvo, hvb⟩ := IRow_own hv
  obtain ⟨A, c, rfl, hkc, hkc2, _, hkA⟩ := own_cells hko
  obtain ⟨A', c', rfl, hvc, hvc2, _, hvA⟩ := own_cells hvo
  obtain ⟨_, _, e1, _, hkC⟩ := FRow_reads hk
  cases e1
  obtain ⟨hs1, hs2⟩ : SortedK (l.map S59.f0) ∧ l.length ≤ 900 := hS
  have hse := search_ok k hs1 (by rw [List.length_map]; omega)
  simp only [List.length_map] at hkc hkA hvc hvA hh hkC hko hvo
  have hhas : has (l.map S59.f0) k = true → rank (l.map S59.f0) k < l.length := fun h => by
    have := has_lt h
    rwa [List.length_map] at this
  have x0 : w.cell? ⟨b, 0, none⟩ = some (.slice A l.length c) := (blk_cell hh 0).trans rfl
  have x1 : w.cell? ⟨b, 1, none⟩ = some (.slice A' l.length c') := (blk_cell hh 1).trans rfl
  have HKC := Aside0.mk hkC
  have HKA := Aside0.mk hkA
  have HVA := Aside0.mk hvA
  have HHS := Aside0.mk hhas
  have HOK := Aside0.mk hok
  have k1 := ta_leaf
  have hlm : l.length ≤ 9223372036854775807 := by omega
  have HSE := Aside0.mk hse
  clear hM hk hv hh hkC hko hvo hkA hvA hs1 hok h0 hb hkb hvb hhas hse
  have HQ : Aside0 (Calls Try.prog 35 #[.slice A l.length c, .string k] w fun e w' => e = .returned (.tuple #[.int .i64 (rank (l.map S59.f0) k : Nat), .bool (has (l.map S59.f0) k)]) ∧ Drawn0 w w') :=
    ⟨by
      obtain ⟨n, hse⟩ := HSE.out
      have := PTreeRanks.slices_BinarySearch_string_string.calls n A c _ k _ _ w (by rw [List.length_map]; exact HKC.out) (by rw [List.length_map]; exact hkc) hse
      rwa [List.length_map] at this⟩
  clear HSE HKC
  generalize rank (l.map S59.f0) k = r at *
  generalize has (l.map S59.f0) k = th at *
  cases th with
  | false =>
    rw [if_neg (by simp)]
    show Calls _ _ _ _ fun e w' => e = .returned _ ∧ Below _ _ _
    clear HHS HKA HVA
    go_enter Try.func50, Try.ntmps50
    go_wp2_with fail
    refine HQ.out.mono ?_
    rintro e w' ⟨rfl, ⟨nq, rfl⟩⟩
    go_wp2
    go_ret
    exact ⟨rfl, pw_below_drewN (Below.refl _ _) nq⟩
  | true =>
    rw [if_pos rfl]
    have hr := HHS.out rfl
    clear HHS
    show Calls _ _ _ _ fun e w' => FreshPost 0 _ ok w e w'
    have HC1 : Aside0 (∀ W, Below w.heap.size w W → Calls Try.prog 64 #[.slice A l.length c, .int .i64 r] W fun e w' => ∃ v', e = .returned v' ∧ w'.ownsRow W.heap.size 9 1 v' (l.length - 1) (((l.eraseIdx r).map S59.f0).map .string) ∧ Below W.heap.size W w') :=
      ⟨fun W hW => by
        rw [← map_eraseIdx', ← map_eraseIdx']
        refine without_str A l.length c r _ W (fun h => ?_) (by simp) (by omega) (fun u hu => by obtain ⟨y, _, rfl⟩ := List.mem_map.1 hu; rfl) hr
        obtain ⟨ad, e, hc⟩ := HKA.out h
        exact ⟨ad, e, cells_later hc hW⟩⟩
    have HC2 : Aside0 (∀ W, Below w.heap.size w W → Calls Try.prog 65 #[.slice A' l.length c', .int .i64 r] W fun e w' => ∃ v', e = .returned v' ∧ w'.ownsRow W.heap.size 2 1 v' (l.length - 1) (((l.eraseIdx r).map S59.f1).map (.int .i64)) ∧ Below W.heap.size W w') :=
      ⟨fun W hW => by
        rw [← map_eraseIdx', ← map_eraseIdx']
        refine without_int A' l.length c' r _ W (fun h => ?_) (by simp) (by omega) (fun u hu => by obtain ⟨y, _, rfl⟩ := List.mem_map.1 hu; rfl) hr
        obtain ⟨ad, e, hc⟩ := HVA.out h
        exact ⟨ad, e, cells_later hc hW⟩⟩
    go_enter Try.func50, Try.ntmps50
    go_wp2_with fail
    refine HQ.out.mono ?_
    rintro e w' ⟨rfl, ⟨nq, rfl⟩⟩
    go_wp2
    have HB2 : Aside0 (Below w.heap.size w (w.drewN nq)) := ⟨pw_below_drewN (Below.refl _ _) nq⟩
    have hsz2 : w.heap.size ≤ (w.drewN nq).heap.size := HB2.out.size
    generalize w.drewN nq = W0 at *
    have HSK : Aside0 (∀ W, Below W0.heap.size W0 W → W.cell? ⟨b, 0, none⟩ = some (.slice A l.length c) ∧ W.cell? ⟨b, 1, none⟩ = some (.slice A' l.length c') ∧ Below W0.heap.size W0 W) :=
      ⟨fun W hW => ⟨pw_cell_below (below_go hW HB2.out) x0, pw_cell_below (below_go hW HB2.out) x1, hW⟩⟩
    clear x0 x1 HQ
    go_region_held3 (fun w' => w'.cell? ⟨b, 0, none⟩ = some (.slice A l.length c) ∧ w'.cell? ⟨b, 1, none⟩ = some (.slice A' l.length c') ∧ Below W0.heap.size W0 w') (exact HSK.out _ (by repeat (first | assumption | exact Below.refl _ _ | refine below_drew ?_ | refine below_mk ?_ _))) (first | (go_at_call 64; refine (HC1.out _ (below_go (And.right (And.right (by assumption))) HB2.out)).mono ?_; rintro e w1 ⟨v1, rfl, ho1, hb1⟩; obtain ⟨A1, c1, rfl, _, hc1m, _, _⟩ := own_cells ho1; have hBn := below_go hb1 (And.right (And.right (by assumption))); have HOk := Aside0.mk ho1; have hrs3 : W0.heap.size ≤ w1.heap.size := hBn.size; clear ho1 hb1) | (go_at_call 65; refine (HC2.out _ (below_go (And.right (And.right (by assumption))) HB2.out)).mono ?_; rintro e w2 ⟨v2, rfl, ho1, hb1⟩; obtain ⟨A2, c2, rfl, _, hc2m, _, _⟩ := own_cells ho1; have hBn2 := below_go hb1 (And.right (And.right (by assumption))); (have HOk1 := Aside0.mk (pw_own_below HOk.out hb1); clear HOk; have HOk := HOk1; clear HOk1); have HOv := Aside0.mk ho1; have hrs4 : w1.heap.size ≤ w2.heap.size := hb1.size; clear ho1 hb1))
    go_wp2
    go_ret
    have hb3 := below_go (below_mk (Below.refl w2.heap.size w2) (.cells #[.slice A1 (l.length - 1) c1, .slice A2 (l.length - 1) c2] 85)) (below_go hBn2 HB2.out)
    have hN := heap_alloc_new w2 (.cells #[.slice A1 (l.length - 1) c1, .slice A2 (l.length - 1) c2] 85)
    have hlen : (l.eraseIdx r).length = l.length - 1 := List.length_eraseIdx_of_lt hr
    have hb4 := below_mk (Below.refl w2.heap.size w2) (.cells #[.slice A1 (l.length - 1) c1, .slice A2 (l.length - 1) c2] 85)
    exact ⟨82, w2.heap.size, rfl, by omega, leaf_M.2 ⟨w2.heap.size, _, _, rfl, HOK.out _ (by omega), hN,
      SRow_mk (pw_own_below HOk.out hb4) (fun k h => HOK.out k (Nat.le_trans hsz2 h)),
      IRow_mk (pw_own_below HOv.out hb4) (fun k h => HOK.out k (by omega))⟩, hb3⟩
end Go.Proofs.Ytjabcdfbncglnaa
