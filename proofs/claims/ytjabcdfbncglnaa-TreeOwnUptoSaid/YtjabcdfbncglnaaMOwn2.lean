/- WHAT IS PROVED: put into an inner node does so if put into its kids does. Put of a tree leaves the tree that putRoot tells. put keeps a tree well-formed and inserts into its flat list. what a well-formed tree answers to a key is what its flat list answers. the document's Rank, Has and Put of a rising list are rank, has and the insertion. At answers the element with a number of the flat list. Next answers the element of the flat list at a rank. the strings of a tree's nodes are no longer than those that were put in. New, Put, At, Rank, Get, Next and Len of a tree are what the document says of its flat list. live answers true. filled makes a tree and a list of the same elements. strings.Clone answers the same bytes, and cloned makes a row of its own with the same strings. cloned makes a row of its own with the same strings. -/
import Derived.Test.YtjabcdfbncglnaaMOwn1
import Derived.Test.YtjabcdfbncglnaaMOwn0
import Derived.Lib.Strings
import Derived.Lib.Walk
import Derived.Lib.BufferWrite
import Derived.Lib.UnsafeStr
import Derived.Lib.Hide
import Derived.Laws.MakeOwn
namespace Go.Proofs.Ytjabcdfbncglnaa
open Go.RowKit Go.Proofs.YtjabcdfbncglnaaW.PrintWords Go.Proofs.YtjabcdfbncglnaaW.PrintLast Go.Proofs.YtjabcdfbncglnaaW.PrintMore
open PTreeRanks (S59 k59 z59)
set_option linter.unusedVariables false
set_option linter.unusedSimpArgs false

theorem own_kept2 {w w1 : World} {base e n : Nat} {u : Option Nat} {v : Value} {xs : List Value} (h : w.ownsRow base e 1 v n xs) (hg : w.grownBy w1 u) (hu : ∀ g, u = some g → g < base) : w1.ownsRow base e 1 v n xs := by
  refine h.kept hg ?_
  cases hv : v.ownBlock with
  | none => exact .inl rfl
  | some k =>
    right
    intro e
    have := own_base h k hv
    have := hu k e.symm
    omega
theorem M_keep {α : Type} {d : Kd α} {w W : World} {r : Nat} {ok : Nat → Prop} {x : α} {cs : List Value} (h : d.M w 0 (fun k => ok k ∧ k ≠ r) x cs) (hg : w.grownBy W (some r)) : d.M W 0 (fun k => ok k ∧ k ≠ r) x cs :=
  Kd.M_step h (fun k hk hlt => hg.block k hlt (fun e => hk.2 (by injection e)))
/-- A row that is younger than W0 has been written. -/
theorem gb_own {W0 w1 w2 : World} {r : Nat} {u : Option Nat} (k : w1.grownBy w2 u) (h : W0.grownBy w1 (some r)) (hu : ∀ g, u = some g → W0.heap.size ≤ g) : W0.grownBy w2 (some r) :=
  ⟨k.os.trans h.os, k.tape.trans h.tape, k.output.trans h.output, Nat.le_trans h.size k.size, fun i hi hne => (k.block i (Nat.lt_of_lt_of_le hi h.size) (fun e => by have := hu i e.symm; omega)).trans (h.block i hi hne)⟩

set_option maxRecDepth 100000 in
set_option maxHeartbeats 16000000 in
theorem put_inner {order bt d : Nat} {k : ByteArray} {x : Int} (ho3 : 3 ≤ order) (ho4 : order ≤ 900) (ih : PutOk order bt k x d) : PutOk order bt k x (d + 1) := by
  intro t v w ok h0 hM hS hsz hok
  obtain ⟨ks, cs, rfl⟩ : ∃ (ks : List ByteArray) (cs : List (T d)), ((ks, cs) : List ByteArray × List (T d)) = t := ⟨_, _, rfl⟩
  have hM' := M_off hM
  obtain ⟨b, kv, cv, rfl, hb, hh, hk, hc⟩ := inner_M.1 hM'
  obtain ⟨hs1, hs2, hs3, hs4⟩ := Shape_inner hS
  obtain ⟨hko, hkb⟩ := SRow_own hk
  obtain ⟨vs, hvo, hve, hvb⟩ := CRow_own hc
  obtain ⟨A, c, rfl, hkc, hkc2, _, hkA⟩ := own_cells hko
  obtain ⟨A', c', rfl, hvc, hvc2, hvl, hvA⟩ := own_cells hvo
  obtain ⟨_, _, e1, _, hkC⟩ := FRow_reads hk
  cases e1
  have hix := kidIx_le ks k
  have hlt : kidIx ks k < cs.length := by omega
  obtain ⟨ad', rfl, hvA1⟩ := hvA (by omega)
  rw [putT_inner order k x hlt]
  have hsize := putT_size order d cs[kidIx ks k] k x
  have hsset := fun c' => sizes_set cs (kidIx ks k) c' hlt
  have hszc : size d cs[kidIx ks k] < 1099511627776 := by
    have := sizes_take_le cs _ hlt
    rw [size_inner] at hsz
    omega
  have hone : ∀ u ∈ vs, u.oneCell' = true := fun u hu => by
    obtain ⟨t, _, ht⟩ := hve.mem hu
    exact NK_one ((NK d).K_of_M ht)
  obtain ⟨vi, hvi, hMi⟩ := hve.get _ hlt
  have hcell := hvA1 _ _ hvi
  have hSi := hs4 _ (List.getElem_mem hlt)
  rw [size_inner] at hsz
  have HP : Aside0 (∀ W, Below w.heap.size w W → w.heap.size < W.heap.size → Calls Try.prog 48 #[.pointer (some ⟨bt, 0, none⟩), vi, .string k, .int .i64 x] W (SplitPost d (putT order d cs[kidIx ks k] k x) (fun k => ok k ∧ k ≠ w.heap.size) W)) :=
    ⟨fun W hW hs => ih _ _ W _ (pw_cell_below hW h0) (M_below' hMi hW) hSi hszc (fun k h => ⟨hok k (by omega), by omega⟩)⟩
  have hkid : Aside0 (∀ W, Below w.heap.size w W → Calls Try.prog 34 #[.pointer (some ⟨b, 0, none⟩), .string k] W fun e w' => e = .returned (.int .i64 (kidIx ks k : Nat)) ∧ Drawn0 W w') :=
    ⟨fun W hW => kid_calls b c A ks k W (Kd.C_below hkC hW) hkc (pw_cell_below hW ((blk_cell hh 0).trans rfl)) hs1 hs3⟩
  have HOK : Aside0 (∀ k, w.heap.size < k → ok k ∧ k ≠ w.heap.size) := ⟨fun k h => ⟨hok k (Nat.le_of_lt h), by omega⟩⟩
  have x0 : w.cell? ⟨b, 0, none⟩ = some (.slice A ks.length c) := (blk_cell hh 0).trans rfl
  have x1 : w.cell? ⟨b, 1, none⟩ = some (.slice (some ad') cs.length c') := (blk_cell hh 1).trans rfl
  have hi9 : kidIx ks k ≤ 900 := by omega
  have hlb : b < w.heap.size := blk_lt hh
  have hsz2 : ∀ s : T d × Option (ByteArray × T d), sizeS s ≤ size d cs[kidIx ks k] + 1 → sizes (cs.set (kidIx ks k) s.1) + (match s.2 with | none => 0 | some (_, r) => size d r) ≤ 1099511627776 := fun s h => by
    have h1 := hsset s.1
    have h2 : size d s.1 + (match s.2 with | none => 0 | some (_, r) => size d r) ≤ size d cs[kidIx ks k] + 1 := h
    have h3 := sizes_take_le cs _ hlt
    omega
  have hsz3 := hsz2 _ hsize
  have HK := Aside0.mk hk
  have HKA := Aside0.mk hkA
  have HVA := Aside0.mk hvA1
  have HVE := Aside0.mk hve
  have HONE := Aside0.mk hone
  have HVL := Aside0.mk hvl
  have HL := Aside0.mk hs2
  have HB1 : Aside0 (Below w.heap.size w (w.alloc (.cells #[.nilIface, .string ⟨#[]⟩, .nilIface] 107))) := ⟨(Below.refl _ w).alloc (Nat.le_refl _) _⟩
  have HR : Aside0 (ResBox w.heap.size (w.alloc (.cells #[.nilIface, .string ⟨#[]⟩, .nilIface] 107))) := ⟨heap_alloc_new w _⟩
  have hrs : w.heap.size < (w.alloc (.cells #[.nilIface, .string ⟨#[]⟩, .nilIface] 107)).heap.size := by simp
  have k3 := ta_inner
  have k4 := ta_inner_no
  have H0 := Aside0.mk h0
  have hcl : cs.length ≤ 901 := by omega
  have HC := Aside0.mk hcell
  clear hM hM' hk hc hh hS hs1 hs2 hs4 hko hvo hkA hvA hvA1 hve hone hvl hkC hix hsize hsset hsz hszc hMi hSi hok h0 hkb hvb hvi hsz2 hcell ih
  generalize kidIx ks k = i at *
  generalize putT order d cs[i] k x = s at *
  obtain ⟨s1, _ | ⟨mid, s2⟩⟩ := s
  · go_enter Try.func48, Try.ntmps48
    go_wp2_with fail
    refine (hkid.out _ HB1.out).mono ?_
    rintro e w' ⟨rfl, ⟨nq, rfl⟩⟩
    have hcell2 := pw_cell_below (pw_below_drewN HB1.out nq) HC.out
    go_wp2_with fail
    refine (HP.out _ (pw_below_drewN HB1.out nq) hrs).mono ?_
    rintro e w2 ⟨hb2, lv, rfl, hMl⟩
    obtain ⟨ty, lb, rfl⟩ := NK_form ((NK d).K_of_M hMl)
    have hHB2 := below_then (pw_below_drewN HB1.out nq) (Nat.le_of_lt hrs) hb2
    go_wp2
    have hH3 : (w2.alloc (.cells #[.iface ty (.pointer (some ⟨lb, 0, none⟩)), .string ⟨#[]⟩, .nilIface] 107)).heap[w2.heap.size]? = some (.cells #[.iface ty (.pointer (some ⟨lb, 0, none⟩)), .string ⟨#[]⟩, .nilIface] 107 (0, 0)) := heap_alloc_new w2 _
    have hB3 : Below w.heap.size w (w2.alloc (.cells #[.iface ty (.pointer (some ⟨lb, 0, none⟩)), .string ⟨#[]⟩, .nilIface] 107)) := hHB2.alloc hHB2.size _
    have hM3 := M_below' hMl ((Below.refl _ w2).alloc (Nat.le_refl _) (.cells #[.iface ty (.pointer (some ⟨lb, 0, none⟩)), .string ⟨#[]⟩, .nilIface] 107))
    have hrs2 : w.heap.size < w2.heap.size := Nat.lt_of_lt_of_le hrs hb2.size
    have hR3 : ResBox w.heap.size (w2.alloc (.cells #[.iface ty (.pointer (some ⟨lb, 0, none⟩)), .string ⟨#[]⟩, .nilIface] 107)) := (Below.heap_alloc _ _ _ hrs2).trans ((hb2.block _ hrs).trans HR.out)
    have hrs3 : w.heap.size < (w2.alloc (.cells #[.iface ty (.pointer (some ⟨lb, 0, none⟩)), .string ⟨#[]⟩, .nilIface] 107)).heap.size := by simp; omega
    generalize w2.alloc (.cells #[.iface ty (.pointer (some ⟨lb, 0, none⟩)), .string ⟨#[]⟩, .nilIface] 107) = W3 at *
    generalize w2.heap.size = sb at *
    have HB3 := Aside0.mk hB3
    have HR3 := Aside0.mk hR3
    have HM3 := Aside0.mk hM3
    have HH3 := Aside0.mk hH3
    have y1 := pw_cell_below hB3 x1
    have y0 := pw_cell_below hB3 x0
    have z0 : W3.cell? ⟨sb, 0, none⟩ = some (.iface ty (.pointer (some ⟨lb, 0, none⟩))) := (blk_cell hH3 0).trans rfl
    have z2 : W3.cell? ⟨sb, 2, none⟩ = some .nilIface := (blk_cell hH3 2).trans rfl
    have HCH : Aside0 (∀ W, Below w.heap.size w W → Calls Try.prog 61 #[.slice (some ad') cs.length c', .int .i64 i, .iface ty (.pointer (some ⟨lb, 0, none⟩))] W fun e w' => ∃ v', e = .returned v' ∧ w'.ownsRow W.heap.size 69 1 v' cs.length (vs.set i (.iface ty (.pointer (some ⟨lb, 0, none⟩)))) ∧ Below W.heap.size W w') :=
      ⟨fun W hW => changed_node _ _ _ i vs ty lb W (fun _ => ⟨_, rfl, cells_later HVA.out hW⟩) HVL.out (by omega) HONE.out hlt⟩
    have HSK : Aside0 (∀ W, Below W3.heap.size W3 W → W.cell? ⟨b, 1, none⟩ = some (.slice (some ad') cs.length c') ∧ W.cell? ⟨sb, 0, none⟩ = some (.iface ty (.pointer (some ⟨lb, 0, none⟩))) ∧ Below W3.heap.size W3 W) :=
      ⟨fun W hW => ⟨pw_cell_below hW y1, pw_cell_below hW z0, hW⟩⟩
    have HY0 := Aside0.mk y0
    have HZ2 := Aside0.mk z2
    clear x0 x1 y0 y1 z0 z2 hH3 hB3 hM3 hR3 hb2 hHB2 hMl hcell2 HB1 HR hrs HP hkid HC HKA
    go_region_held3 (fun w' => w'.cell? ⟨b, 1, none⟩ = some (.slice (some ad') cs.length c') ∧ w'.cell? ⟨sb, 0, none⟩ = some (.iface ty (.pointer (some ⟨lb, 0, none⟩))) ∧ Below W3.heap.size W3 w') (exact HSK.out _ (by repeat (first | assumption | exact Below.refl _ _ | refine below_drew ?_ | refine below_mk ?_ _))) (first | (go_at_call 61; refine (HCH.out _ (below_go (And.right (And.right (by assumption))) HB3.out)).mono ?_; rintro e w4 ⟨v1, rfl, ho1, hb1⟩; obtain ⟨A1, c1, rfl, _, hc1m, _, _⟩ := own_cells ho1; have hBn := below_go hb1 (And.right (And.right (by assumption))); have HO := Aside0.mk ho1; clear ho1 hb1))
    have hlb4 : b < w4.heap.size := Nat.lt_of_lt_of_le (World.block_lt_of_cell? _ _ HY0.out) hBn.size
    have y04 := pw_cell_below hBn HY0.out
    have z24 := pw_cell_below hBn HZ2.out
    have hrs4 : w.heap.size < w4.heap.size := Nat.lt_of_lt_of_le hrs3 hBn.size
    have HN : Aside0 (Calls Try.prog 49 #[.slice A ks.length c, .slice A1 cs.length c1] w4 (InnerPost d ks (cs.set i s1) (fun k => ok k ∧ k ≠ w.heap.size) w4)) :=
      ⟨newInner_calls (FRow_below HK.out (below_go hBn HB3.out)) (CRow_mk HO.out ((Elems_below HVE.out (below_go hBn HB3.out)).set i (M_below' HM3.out hBn)) (fun k h => HOK.out k (Nat.lt_of_lt_of_le hrs3 h))) (fun k h => HOK.out k (by omega)) (by simpa using hsz3)⟩
    have HR4 : Aside0 (ResBox w.heap.size w4) := ⟨(hBn.block _ hrs3).trans HR3.out⟩
    have HBn := Aside0.mk (below_go hBn HB3.out)
    clear hBn HCH HSK HO
    go_wp2_with fail
    refine HN.out.mono ?_
    rintro e w5 ⟨nb, rfl, hnb, hM5, hb5⟩
    obtain ⟨⟨q0, q1, q2⟩, p0, p1, p2⟩ := ResBox.cells ((hb5.block _ hrs4).trans HR4.out)
    have hrs5 : w.heap.size < w5.heap.size := Nat.lt_of_lt_of_le hrs4 hb5.size
    have HM5 := Aside0.mk hM5
    have HB5 := Aside0.mk hb5
    clear hM5 hb5
    go_wp2
    refine bodyPost_ret (v := .agg #[.iface 78 (.pointer (some ⟨nb, 0, none⟩)), .string ⟨#[]⟩, .nilIface]) (by simp [results, Try.results48, go_sem, q0, q1, q2]) rfl ?_
    exact ⟨gb_old (below_go HB5.out HBn.out) (gb_split _ _ _), _, rfl, M_on HM5.out (gb_split _ _ _)⟩
  · rw [show putUp order ks cs i (s1, some (mid, s2)) = halveT order (ks.take i ++ mid :: ks.drop i) ((cs.set i s1).take (i + 1) ++ s2 :: (cs.set i s1).drop (i + 1)) from rfl]
    generalize hsp : halveT order (ks.take i ++ mid :: ks.drop i) ((cs.set i s1).take (i + 1) ++ s2 :: (cs.set i s1).drop (i + 1)) = sp at *
    have HSP := Aside0.mk hsp
    clear hsp
    go_enter Try.func48, Try.ntmps48
    go_wp2_with fail
    refine (hkid.out _ HB1.out).mono ?_
    rintro e w' ⟨rfl, ⟨nq, rfl⟩⟩
    have hcell2 := pw_cell_below (pw_below_drewN HB1.out nq) HC.out
    go_wp2_with fail
    refine (HP.out _ (pw_below_drewN HB1.out nq) hrs).mono ?_
    rintro e w2 ⟨hb2, lv, rv, rfl, hMl, hMr⟩
    obtain ⟨ty, lb, rfl⟩ := NK_form ((NK d).K_of_M hMl)
    obtain ⟨ty2, lb2, rfl⟩ := NK_form ((NK d).K_of_M hMr)
    have hHB2 := below_then (pw_below_drewN HB1.out nq) (Nat.le_of_lt hrs) hb2
    go_wp2
    have hH3 : (w2.alloc (.cells #[.iface ty (.pointer (some ⟨lb, 0, none⟩)), .string mid, .iface ty2 (.pointer (some ⟨lb2, 0, none⟩))] 107)).heap[w2.heap.size]? = some (.cells #[.iface ty (.pointer (some ⟨lb, 0, none⟩)), .string mid, .iface ty2 (.pointer (some ⟨lb2, 0, none⟩))] 107 (0, 0)) := heap_alloc_new w2 _
    have hB3 : Below w.heap.size w (w2.alloc (.cells #[.iface ty (.pointer (some ⟨lb, 0, none⟩)), .string mid, .iface ty2 (.pointer (some ⟨lb2, 0, none⟩))] 107)) := hHB2.alloc hHB2.size _
    have hM3 := M_below' hMl ((Below.refl _ w2).alloc (Nat.le_refl _) (.cells #[.iface ty (.pointer (some ⟨lb, 0, none⟩)), .string mid, .iface ty2 (.pointer (some ⟨lb2, 0, none⟩))] 107))
    have hMR3 := M_below' hMr ((Below.refl _ w2).alloc (Nat.le_refl _) (.cells #[.iface ty (.pointer (some ⟨lb, 0, none⟩)), .string mid, .iface ty2 (.pointer (some ⟨lb2, 0, none⟩))] 107))
    have hrs2 : w.heap.size < w2.heap.size := Nat.lt_of_lt_of_le hrs hb2.size
    have hR3 : ResBox w.heap.size (w2.alloc (.cells #[.iface ty (.pointer (some ⟨lb, 0, none⟩)), .string mid, .iface ty2 (.pointer (some ⟨lb2, 0, none⟩))] 107)) := (Below.heap_alloc _ _ _ hrs2).trans ((hb2.block _ hrs).trans HR.out)
    have hrs3 : w.heap.size < (w2.alloc (.cells #[.iface ty (.pointer (some ⟨lb, 0, none⟩)), .string mid, .iface ty2 (.pointer (some ⟨lb2, 0, none⟩))] 107)).heap.size := by simp; omega
    generalize w2.alloc (.cells #[.iface ty (.pointer (some ⟨lb, 0, none⟩)), .string mid, .iface ty2 (.pointer (some ⟨lb2, 0, none⟩))] 107) = W3 at *
    generalize w2.heap.size = sb at *
    have HB3 := Aside0.mk hB3
    have HR3 := Aside0.mk hR3
    have HM3 := Aside0.mk hM3
    have HMR3 := Aside0.mk hMR3
    have HH3 := Aside0.mk hH3
    have y1 := pw_cell_below hB3 x1
    have y0 := pw_cell_below hB3 x0
    have z0 : W3.cell? ⟨sb, 0, none⟩ = some (.iface ty (.pointer (some ⟨lb, 0, none⟩))) := (blk_cell hH3 0).trans rfl
    have z1 : W3.cell? ⟨sb, 1, none⟩ = some (.string mid) := (blk_cell hH3 1).trans rfl
    have z2 : W3.cell? ⟨sb, 2, none⟩ = some (.iface ty2 (.pointer (some ⟨lb2, 0, none⟩))) := (blk_cell hH3 2).trans rfl
    have HCH : Aside0 (∀ W, Below w.heap.size w W → Calls Try.prog 61 #[.slice (some ad') cs.length c', .int .i64 i, .iface ty (.pointer (some ⟨lb, 0, none⟩))] W fun e w' => ∃ v', e = .returned v' ∧ w'.ownsRow W.heap.size 69 1 v' cs.length (vs.set i (.iface ty (.pointer (some ⟨lb, 0, none⟩)))) ∧ Below W.heap.size W w') :=
      ⟨fun W hW => changed_node _ _ _ i vs ty lb W (fun _ => ⟨_, rfl, cells_later HVA.out hW⟩) HVL.out (by omega) HONE.out hlt⟩
    have HSK : Aside0 (∀ W, Below W3.heap.size W3 W → W.cell? ⟨b, 1, none⟩ = some (.slice (some ad') cs.length c') ∧ W.cell? ⟨sb, 0, none⟩ = some (.iface ty (.pointer (some ⟨lb, 0, none⟩))) ∧ Below W3.heap.size W3 W) :=
      ⟨fun W hW => ⟨pw_cell_below hW y1, pw_cell_below hW z0, hW⟩⟩
    have HSB : Aside0 (w.heap.size < sb) := ⟨hrs2⟩
    have hlb3 := World.block_lt_of_cell? _ _ y0
    have HSK2 : Aside0 (∀ W, W3.grownBy W (some w.heap.size) → W.cell? ⟨b, 0, none⟩ = some (.slice A ks.length c) ∧ W.cell? ⟨sb, 1, none⟩ = some (.string mid) ∧ W.cell? ⟨sb, 2, none⟩ = some (.iface ty2 (.pointer (some ⟨lb2, 0, none⟩))) ∧ W3.grownBy W (some w.heap.size)) :=
      ⟨fun W hW => ⟨hW.cell y0 (fun e => by injection e with e; exact absurd e (Nat.ne_of_lt hlb)), hW.cell z1 (fun e => by injection e with e; have : sb = w.heap.size := e; omega), hW.cell z2 (fun e => by injection e with e; have : sb = w.heap.size := e; omega), hW⟩⟩
    have HWI : Aside0 (∀ W, Below w.heap.size w W → Calls Try.prog 59 #[.slice A ks.length c, .int .i64 i, .string mid] W fun e w' => ∃ v', e = .returned v' ∧ w'.ownsRow W.heap.size 9 1 v' (ks.length + 1) ((ks.take i ++ mid :: ks.drop i).map .string) ∧ Below W.heap.size W w') :=
      ⟨fun W hW => by
        rw [List.map_append, List.map_cons, List.map_take, List.map_drop]
        refine with_str A ks.length c i _ mid W (fun h => ?_) (by simp) (by omega) (fun u hu => by obtain ⟨y, _, rfl⟩ := List.mem_map.1 hu; rfl) (by have := HL.out; omega)
        obtain ⟨ad, e, hc⟩ := HKA.out h
        exact ⟨ad, e, cells_later hc hW⟩⟩
    have HZ2 := Aside0.mk z2
    have HY0 := Aside0.mk y0
    clear x0 x1 y0 y1 z0 z1 hH3 hB3 hM3 hMR3 hR3 hb2 hHB2 hMl hMr hcell2 HB1 HR hrs HP hkid HC HKA
    go_region_held3 (fun w' => w'.cell? ⟨b, 1, none⟩ = some (.slice (some ad') cs.length c') ∧ w'.cell? ⟨sb, 0, none⟩ = some (.iface ty (.pointer (some ⟨lb, 0, none⟩))) ∧ Below W3.heap.size W3 w') (exact HSK.out _ (by repeat (first | assumption | exact Below.refl _ _ | refine below_drew ?_ | refine below_mk ?_ _))) (first | (go_at_call 61; refine (HCH.out _ (below_go (And.right (And.right (by assumption))) HB3.out)).mono ?_; rintro e w4 ⟨v1, rfl, ho1, hb1⟩; obtain ⟨A1, c1, rfl, _, hc1m, _, _⟩ := own_cells ho1; have hBn := below_go hb1 (And.right (And.right (by assumption))); have HO := Aside0.mk ho1; clear ho1 hb1))
    have z24 := pw_cell_below hBn HZ2.out
    have HBn := Aside0.mk hBn
    have hrs4 : w.heap.size < w4.heap.size := Nat.lt_of_lt_of_le hrs3 hBn.size
    have HR4 : Aside0 (ResBox w.heap.size w4) := ⟨(hBn.block _ hrs3).trans HR3.out⟩
    have hgr4 : W3.grownBy w4 (some w.heap.size) := gb_below hBn (grownBy_refl _ _)
    clear hBn HCH HSK z24
    have z24 := pw_cell_below HBn.out HZ2.out
    have y04 := pw_cell_below HBn.out HY0.out
    have hgd2 : ∀ g, (Value.slice A1 cs.length c1).ownBlock = some g → W3.heap.size ≤ g ∧ g < w4.heap.size := fun g e => ⟨own_base HO.out g e, own_lt HO.out g e⟩
    have HGD := Aside0.mk hgd2
    have hlen2 : (vs.set i (.iface ty (.pointer (some ⟨lb, 0, none⟩)))).length = cs.length := by rw [List.length_set]; exact HVL.out
    have hone2 : ∀ u ∈ vs.set i (.iface ty (.pointer (some ⟨lb, 0, none⟩))), u.oneCell' = true := fun u hu => by
      rcases List.mem_or_eq_of_mem_set hu with h | rfl
      · exact HONE.out u h
      · rfl
    have HINS : Aside0 (∀ (W : World) (vb : Nat), W.ownsRow W3.heap.size 69 1 (.slice A1 cs.length c1) cs.length (vs.set i (.iface ty (.pointer (some ⟨lb, 0, none⟩)))) → W3.heap.size ≤ W.heap.size → W.heap[vb]? = some (.cells #[.iface ty2 (.pointer (some ⟨lb2, 0, none⟩))] 69 (0, 0)) → (Value.slice A1 cs.length c1).ownBlock ≠ some vb →
        Calls Try.prog 63 #[.slice A1 cs.length c1, .int .i64 ((i : Int) + 1), .slice (some ⟨vb, 0, none⟩) 1 1] W fun e w' => ∃ v', e = .returned v' ∧ w'.ownsRow W3.heap.size 69 1 v' (cs.length + 1) ((vs.set i (.iface ty (.pointer (some ⟨lb, 0, none⟩)))).take (i + 1) ++ .iface ty2 (.pointer (some ⟨lb2, 0, none⟩)) :: (vs.set i (.iface ty (.pointer (some ⟨lb, 0, none⟩)))).drop (i + 1)) ∧ W.grownBy w' (Value.slice A1 cs.length c1).ownBlock) :=
      ⟨fun W vb h1 h2 h3 h4 => insert_node W3.heap.size cs.length (i + 1) _ vb _ _ W h1 h2 (by omega) (by omega) hone2 h3 h4 rfl⟩
    have HHV : Aside0 (∀ (W : World) (b1 n1 n2 : Nat) (v1 v2 : Value), W3.grownBy W (some w.heap.size) → w.heap.size < b1 → W.ownsRow b1 9 1 v1 n1 ((ks.take i ++ mid :: ks.drop i).map .string) →
        W.ownsRow W3.heap.size 69 1 v2 n2 ((vs.set i (.iface ty (.pointer (some ⟨lb, 0, none⟩)))).take (i + 1) ++ .iface ty2 (.pointer (some ⟨lb2, 0, none⟩)) :: (vs.set i (.iface ty (.pointer (some ⟨lb, 0, none⟩)))).drop (i + 1)) →
        Calls Try.prog 62 #[.pointer (some ⟨bt, 0, none⟩), v1, v2] W (SplitPost (d + 1) sp (fun k => ok k ∧ k ≠ w.heap.size) W)) :=
      ⟨fun W b1 n1 n2 v1 v2 hg hb1 h1 h2 => by
        rw [← HSP.out]
        exact halve_calls (pw_cell_below (gb_old HB3.out hg) H0.out) (SRow_mk h1 (fun k h => HOK.out k (by omega)))
          (CRow_mk h2 (((Elems_below HVE.out (gb_old HB3.out hg)).set i (M_keep HM3.out hg)).ins (i + 1) (M_keep HMR3.out hg)) (fun k h => HOK.out k (by omega))) (fun k h => HOK.out k (by have := hg.size; omega))
          (by rw [sizes_ins]; exact hsz3) (by omega)
          (by have := HL.out; simp only [List.length_append, List.length_cons, List.length_take, List.length_drop, List.length_set]; omega)
          (by have := HL.out; simp only [List.length_append, List.length_cons, List.length_take, List.length_drop, List.length_set]; omega)⟩
    have hw1 : IntKind.i64.wrap ((i : Int) + 1) = (i : Int) + 1 := by rw [IntKind.wrap_i64]; omega
    have HO3 : Aside0 (w4.ownsRow W3.heap.size 69 1 (.slice A1 cs.length c1) cs.length (vs.set i (.iface ty (.pointer (some ⟨lb, 0, none⟩))))) := ⟨HO.out⟩
    have hh34 : W3.heap.size ≤ w4.heap.size := HBn.out.size
    clear hgd2 hlen2 HO y04 z24 hone2
    have z24 := pw_cell_below HBn.out HZ2.out
    clear HSP
    go_wp2
    obtain ⟨t1, _ | ⟨mid2, t2⟩⟩ := sp
    · go_region_held3 (fun w' => w'.cell? ⟨b, 0, none⟩ = some (.slice A ks.length c) ∧ w'.cell? ⟨sb, 1, none⟩ = some (.string mid) ∧ w'.cell? ⟨sb, 2, none⟩ = some (.iface ty2 (.pointer (some ⟨lb2, 0, none⟩))) ∧ W3.grownBy w' (some w.heap.size)) (exact HSK2.out _ (by repeat (first | assumption | exact grownBy_refl _ _ | refine grownBy_drew ?_ | refine gb_alloc ?_ _ | refine gb_set ?_ _ _))) (first | (go_at_call 59; refine (HWI.out _ (gb_old HB3.out (And.right (And.right (And.right (by assumption)))))).mono ?_; rintro e w6 ⟨v2, rfl, ho1, hb1⟩; obtain ⟨A2, c2, rfl, _, hc2m, _, _⟩ := own_cells ho1; have hBn6 := gb_below hb1 (And.right (And.right (And.right (by assumption)))); have HOk := Aside0.mk ho1; have hh46 : w4.heap.size ≤ w6.heap.size := Nat.le_trans (by simp) hb1.size; (first | (have HO6 := Aside0.mk (pw_own_below (World.ownsRow.drew HO3.out) hb1); have HR6 : Aside0 (ResBox w.heap.size w6) := ⟨(hb1.block _ hrs4).trans HR4.out⟩) | (have HO6 := Aside0.mk (pw_own_below (World.ownsRow.drew (HO3.out.alloc (.cells #[.iface ty2 (.pointer (some ⟨lb2, 0, none⟩))] 69))) hb1); have HR6 : Aside0 (ResBox w.heap.size w6) := ⟨(hb1.block _ (Nat.lt_of_lt_of_le hrs4 (by simp))).trans ((Below.heap_alloc w4 (.cells #[.iface ty2 (.pointer (some ⟨lb2, 0, none⟩))] 69) _ hrs4).trans HR4.out)⟩; have HVB := Aside0.mk ((hb1.block w4.heap.size (by simp)).trans (heap_alloc_new w4 (.cells #[.iface ty2 (.pointer (some ⟨lb2, 0, none⟩))] 69))))); have hrs6 : w.heap.size < w6.heap.size := Nat.lt_of_lt_of_le hrs4 hh46; have hh36 : W3.heap.size ≤ w6.heap.size := Nat.le_trans hh34 hh46; clear ho1 hb1) | (go_at_call 63; refine (HINS.out _ _ (by first | exact HO6.out | exact HO6.out.alloc _) (by first | exact hh36 | exact Nat.le_trans hh36 (by simp)) (by first | exact HVB.out | exact heap_alloc_new _ _) (by first | exact fun e => Nat.lt_irrefl _ (own_lt HO6.out _ e) | exact fun e => Nat.lt_irrefl _ (own_lt HO3.out _ e))).mono ?_; rintro e w7 ⟨v3, rfl, ho1, hg1⟩; obtain ⟨A3, c3, rfl, _, hc3m, _, _⟩ := own_cells ho1; have hBn7 := gb_own hg1 (And.right (And.right (And.right (by assumption)))) (fun g e => (HGD.out g e).1); (first | (have HOk7 := Aside0.mk (own_kept2 HOk.out hg1 (fun g e => Nat.lt_of_lt_of_le (HGD.out g e).2 (by simp)))) | (have HOk7 := Aside0.mk (own_kept2 (HOk.out.alloc _) hg1 (fun g e => Nat.lt_of_lt_of_le (HGD.out g e).2 (by simp))))); have HO7 := Aside0.mk ho1; (first | (have HR7 : Aside0 (ResBox w.heap.size w7) := ⟨(hg1.block _ hrs6 (fun e => by have := (HGD.out _ e.symm).1; omega)).trans HR6.out⟩) | (have HR7 : Aside0 (ResBox w.heap.size w7) := ⟨(hg1.block _ (Nat.lt_of_lt_of_le hrs6 (by simp)) (fun e => by have := (HGD.out _ e.symm).1; omega)).trans ((Below.heap_alloc _ _ _ hrs6).trans HR6.out)⟩)); have hrs7 : w.heap.size < w7.heap.size := Nat.lt_of_lt_of_le hrs6 (Nat.le_trans (by simp) hg1.size); clear ho1 hg1) | (go_at_call 62; refine (HHV.out _ _ _ _ _ _ (And.right (And.right (And.right (by assumption)))) (Nat.lt_of_lt_of_le hrs4 (by simp)) HOk7.out HO7.out).mono ?_; rintro e w8 hP; obtain ⟨ty8, b8, rfl, hb8, hfin⟩ := split_none hP (gb_old HB3.out hBn7); have hBn8 := gb_below hb8 hBn7; obtain ⟨⟨q0, q1, q2⟩, p0, p1, p2⟩ := ResBox.cells ((hb8.block _ hrs7).trans HR7.out); have hrs8 : w.heap.size < w8.heap.size := Nat.lt_of_lt_of_le hrs7 hb8.size; have HFIN := Aside0.mk hfin; clear hfin hP hb8))
      all_goals
        go_wp2
        refine bodyPost_ret (v := .agg #[.iface ty8 (.pointer (some ⟨b8, 0, none⟩)), .string ⟨#[]⟩, .nilIface]) (by simp [results, Try.results48, go_sem, q0, q1, q2]) rfl ?_
        exact HFIN.out
    · go_region_held3 (fun w' => w'.cell? ⟨b, 0, none⟩ = some (.slice A ks.length c) ∧ w'.cell? ⟨sb, 1, none⟩ = some (.string mid) ∧ w'.cell? ⟨sb, 2, none⟩ = some (.iface ty2 (.pointer (some ⟨lb2, 0, none⟩))) ∧ W3.grownBy w' (some w.heap.size)) (exact HSK2.out _ (by repeat (first | assumption | exact grownBy_refl _ _ | refine grownBy_drew ?_ | refine gb_alloc ?_ _ | refine gb_set ?_ _ _))) (first | (go_at_call 59; refine (HWI.out _ (gb_old HB3.out (And.right (And.right (And.right (by assumption)))))).mono ?_; rintro e w6 ⟨v2, rfl, ho1, hb1⟩; obtain ⟨A2, c2, rfl, _, hc2m, _, _⟩ := own_cells ho1; have hBn6 := gb_below hb1 (And.right (And.right (And.right (by assumption)))); have HOk := Aside0.mk ho1; have hh46 : w4.heap.size ≤ w6.heap.size := Nat.le_trans (by simp) hb1.size; (first | (have HO6 := Aside0.mk (pw_own_below (World.ownsRow.drew HO3.out) hb1); have HR6 : Aside0 (ResBox w.heap.size w6) := ⟨(hb1.block _ hrs4).trans HR4.out⟩) | (have HO6 := Aside0.mk (pw_own_below (World.ownsRow.drew (HO3.out.alloc (.cells #[.iface ty2 (.pointer (some ⟨lb2, 0, none⟩))] 69))) hb1); have HR6 : Aside0 (ResBox w.heap.size w6) := ⟨(hb1.block _ (Nat.lt_of_lt_of_le hrs4 (by simp))).trans ((Below.heap_alloc w4 (.cells #[.iface ty2 (.pointer (some ⟨lb2, 0, none⟩))] 69) _ hrs4).trans HR4.out)⟩; have HVB := Aside0.mk ((hb1.block w4.heap.size (by simp)).trans (heap_alloc_new w4 (.cells #[.iface ty2 (.pointer (some ⟨lb2, 0, none⟩))] 69))))); have hrs6 : w.heap.size < w6.heap.size := Nat.lt_of_lt_of_le hrs4 hh46; have hh36 : W3.heap.size ≤ w6.heap.size := Nat.le_trans hh34 hh46; clear ho1 hb1) | (go_at_call 63; refine (HINS.out _ _ (by first | exact HO6.out | exact HO6.out.alloc _) (by first | exact hh36 | exact Nat.le_trans hh36 (by simp)) (by first | exact HVB.out | exact heap_alloc_new _ _) (by first | exact fun e => Nat.lt_irrefl _ (own_lt HO6.out _ e) | exact fun e => Nat.lt_irrefl _ (own_lt HO3.out _ e))).mono ?_; rintro e w7 ⟨v3, rfl, ho1, hg1⟩; obtain ⟨A3, c3, rfl, _, hc3m, _, _⟩ := own_cells ho1; have hBn7 := gb_own hg1 (And.right (And.right (And.right (by assumption)))) (fun g e => (HGD.out g e).1); (first | (have HOk7 := Aside0.mk (own_kept2 HOk.out hg1 (fun g e => Nat.lt_of_lt_of_le (HGD.out g e).2 (by simp)))) | (have HOk7 := Aside0.mk (own_kept2 (HOk.out.alloc _) hg1 (fun g e => Nat.lt_of_lt_of_le (HGD.out g e).2 (by simp))))); have HO7 := Aside0.mk ho1; (first | (have HR7 : Aside0 (ResBox w.heap.size w7) := ⟨(hg1.block _ hrs6 (fun e => by have := (HGD.out _ e.symm).1; omega)).trans HR6.out⟩) | (have HR7 : Aside0 (ResBox w.heap.size w7) := ⟨(hg1.block _ (Nat.lt_of_lt_of_le hrs6 (by simp)) (fun e => by have := (HGD.out _ e.symm).1; omega)).trans ((Below.heap_alloc _ _ _ hrs6).trans HR6.out)⟩)); have hrs7 : w.heap.size < w7.heap.size := Nat.lt_of_lt_of_le hrs6 (Nat.le_trans (by simp) hg1.size); clear ho1 hg1) | (go_at_call 62; refine (HHV.out _ _ _ _ _ _ (And.right (And.right (And.right (by assumption)))) (Nat.lt_of_lt_of_le hrs4 (by simp)) HOk7.out HO7.out).mono ?_; rintro e w8 hP; obtain ⟨ty8, b8, ty9, b9, rfl, hb8, hfin⟩ := split_some hP (gb_old HB3.out hBn7); have hBn8 := gb_below hb8 hBn7; obtain ⟨⟨q0, q1, q2⟩, p0, p1, p2⟩ := ResBox.cells ((hb8.block _ hrs7).trans HR7.out); have hrs8 : w.heap.size < w8.heap.size := Nat.lt_of_lt_of_le hrs7 hb8.size; have HFIN := Aside0.mk hfin; clear hfin hP hb8))
      all_goals
        go_wp2
        refine bodyPost_ret (v := .agg #[.iface ty8 (.pointer (some ⟨b8, 0, none⟩)), .string mid2, .iface ty9 (.pointer (some ⟨b9, 0, none⟩))]) (by simp [results, Try.results48, go_sem, q0, q1, q2]) rfl ?_
        exact HFIN.out

end Go.Proofs.Ytjabcdfbncglnaa
namespace Go.Proofs.Ytjabcdfbncglnaa
open Go.RowKit Go.Proofs.YtjabcdfbncglnaaW.PrintWords Go.Proofs.YtjabcdfbncglnaaW.PrintLast Go.Proofs.YtjabcdfbncglnaaW.PrintMore
open PTreeRanks (S59 k59 z59)
set_option linter.unusedVariables false
set_option linter.unusedSimpArgs false

theorem put_ok {order bt : Nat} {k : ByteArray} {x : Int} (ho3 : 3 ≤ order) (ho4 : order ≤ 900) : ∀ d, PutOk order bt k x d
  | 0 => fun l v w ok h0 hM hS _ hok => put_leaf k x h0 ho3 ho4 hM hS hok
  | d + 1 => put_inner ho3 ho4 (put_ok ho3 ho4 d)

/-- A tree of whatever depth. -/
abbrev AT := (d : Nat) × T d

def putRoot (order : Nat) (t : AT) (k : ByteArray) (x : Int) : AT :=
  match putT order t.1 t.2 k x with
  | (l, none) => ⟨t.1, l⟩
  | (l, some (mid, r)) => ⟨t.1 + 1, (([mid], [l, r]) : List ByteArray × List (T t.1))⟩

def sizeA (t : AT) : Nat := size t.1 t.2

/-- A tree in its struct: block bt; its nodes lie in blocks that are ok, and bt is none of them. -/
def TreeIn (order : Nat) (t : AT) (bt : Nat) (ok : Nat → Prop) (w : World) : Prop :=
  ∃ v, w.heap[bt]? = some (.cells #[.int .i64 order, v] 71 (0, 0)) ∧ (NK t.1).M w 0 ok t.2 [v] ∧ Shape t.1 t.2 ∧ sizeA t < 1099511627776

theorem newInner_lit {d : Nat} {mid : ByteArray} {l r : T d} {lv rv : Value} {w : World} {ok : Nat → Prop} {kb cb : Nat} (hk : w.heap[kb]? = some (.cells #[.string mid] 9 (0, 0))) (hc : w.heap[cb]? = some (.cells #[lv, rv] 69 (0, 0)))
    (hl : (NK d).M w 0 ok l [lv]) (hr : (NK d).M w 0 ok r [rv]) (hok : ∀ k, w.heap.size ≤ k → ok k) (hkb : ok kb) (hcb : ok cb) (hsz : size d l + size d r ≤ 1099511627776) :
    Calls Try.prog 49 #[.slice (some ⟨kb, 0, none⟩) 1 1, .slice (some ⟨cb, 0, none⟩) 2 2] w (InnerPost d [mid] [l, r] ok w) := by
  have h1 : w.ownsRow kb 9 1 (.slice (some ⟨kb, 0, none⟩) 1 1) 1 ([mid].map .string) := own_of_heap (cap := 1) (cur := [.string mid]) (Nat.le_refl _) hk rfl (by decide) (Nat.le_refl _) rfl
  have h2 : w.ownsRow cb 69 1 (.slice (some ⟨cb, 0, none⟩) 2 2) 2 [lv, rv] := own_of_heap (cap := 2) (cur := [lv, rv]) (Nat.le_refl _) hc rfl (by decide) (Nat.le_refl _) rfl
  have s1 : SRow w 0 ok (.slice (some ⟨kb, 0, none⟩) 1 1) [mid] := (VRow_iff (d := Kd.string) rfl).1 ⟨fun k e => by
    have e2 : some kb = some k := e
    cases e2; exact hkb, _, own_weaken h1 (Nat.zero_le _), Elems_map _ (RM Kd.string w ok) (fun x => (rfl : [Value.string x] = [Value.string x])) _⟩
  have s2 : CRow d w 0 ok (.slice (some ⟨cb, 0, none⟩) 2 2) [l, r] := (VRow_iff (NK_sz d)).1 ⟨fun k e => by
    have e2 : some cb = some k := e
    cases e2; exact hcb, _, own_weaken h2 (Nat.zero_le _), (Elems.one hl).append (Elems.one hr)⟩
  exact newInner_calls s1 s2 hok (by simpa [sizes] using hsz)

/-- What Put answers and leaves. -/
def PutPost (order : Nat) (t : AT) (bt : Nat) (k : ByteArray) (x : Int) (ok : Nat → Prop) (w : World) (e : Ending) (w' : World) : Prop :=
  e = .returned (.tuple #[.bool (decide (sizeA t < sizeA (putRoot order t k x))), .int .i64 0]) ∧ w.grownBy w' (some bt) ∧
    ∃ v, w'.heap[bt]? = some (.cells #[.int .i64 order, v] 71 (0, 0)) ∧ (NK (putRoot order t k x).1).M w' 0 ok (putRoot order t k x).2 [v]

theorem M_step' {d : Nat} {t : T d} {v : Value} {w W : World} {r : Nat} {ok : Nat → Prop} (h : (NK d).M w 0 ok t [v]) (hg : w.grownBy W (some r)) (hr : ¬ ok r) : (NK d).M W 0 ok t [v] :=
  Kd.M_step h (fun k hk hlt => hg.block k hlt (fun e => hr (by injection e with e; rw [← e]; exact hk)))

set_option maxRecDepth 100000 in
set_option maxHeartbeats 8000000 in
theorem Put_calls {order bt : Nat} {t : AT} {ok : Nat → Prop} {w : World} (k : ByteArray) (x : Int) (ho3 : 3 ≤ order) (ho4 : order ≤ 900) (hT : TreeIn order t bt ok w) (hok : ∀ k, w.heap.size ≤ k → ok k) (hbt : ¬ ok bt) :
    Calls Try.prog 25 #[.pointer (some ⟨bt, 0, none⟩), .string k, .int .i64 x] w (PutPost order t bt k x ok w) := by
  obtain ⟨d, t⟩ := t
  obtain ⟨v, hh, hM, hS, hsz⟩ := hT
  have hK := (NK d).K_of_M hM
  have x0 : w.cell? ⟨bt, 0, none⟩ = some (.int .i64 order) := (blk_cell hh 0).trans rfl
  have x1 : w.cell? ⟨bt, 1, none⟩ = some v := (blk_cell hh 1).trans rfl
  have HP := Aside0.mk (put_ok (bt := bt) (k := k) (x := x) ho3 ho4 d t v w ok x0 hM hS hsz hok)
  have hno := Aside0.mk (none_some bt w hK x1)
  have hps := putT_size order d t k x
  have m1 := meth_leaf
  have m2 := meth_inner
  have f1 : w.frozen? ⟨bt, 1, none⟩ = false := blk_frozen hh 1
  have hlt : bt < w.heap.size := blk_lt hh
  have HH := Aside0.mk hh
  have hsd : size d t < 1099511627776 := hsz
  clear hM hS x0
  unfold PutPost putRoot sizeA
  show Calls _ _ _ _ (fun e w' => e = .returned (.tuple #[.bool (decide (size d t < _)), _]) ∧ _ ∧ _)
  generalize putT order d t k x = s at *
  obtain ⟨s1, _ | ⟨mid, s2⟩⟩ := s
  · rcases count_any hK with ⟨bb, rfl, hcnt⟩ | ⟨bb, rfl, hcnt⟩
    all_goals
      have HC := Aside0.mk hcnt
      clear hcnt hK hh
      go_enter Try.func25, Try.ntmps25
      go_wp2_with fail
      refine hno.out.mono ?_
      rintro e w' ⟨rfl, rfl⟩
      go_wp2_with fail
      refine HC.out.mono ?_
      rintro e w' ⟨rfl, rfl⟩
      go_wp2_with fail
      refine HP.out.mono ?_
      rintro e w2 ⟨hb2, lv, rfl, hMl⟩
      have y1 := pw_cell_below hb2 x1
      have g1 : w2.frozen? ⟨bt, 1, none⟩ = false := (hb2.frozen (p := ⟨bt, 1, none⟩) hlt).trans f1
      have hlt2 : bt < w2.heap.size := Nat.lt_of_lt_of_le hlt hb2.size
      have hG2 : w2.grownBy ((w2.setCell ⟨bt, 1, none⟩ lv).alloc (.cells #[lv, .string ⟨#[]⟩, .nilIface] 107)) (some bt) := gb_alloc (gb_set (grownBy_refl _ _) _ _) _
      have hG : w.grownBy ((w2.setCell ⟨bt, 1, none⟩ lv).alloc (.cells #[lv, .string ⟨#[]⟩, .nilIface] 107)) (some bt) := grownBy_trans (gb_below hb2 (grownBy_refl _ _)) hG2
      have hM5 := M_step' hMl hG2 hbt
      have hH5 : ((w2.setCell ⟨bt, 1, none⟩ lv).alloc (.cells #[lv, .string ⟨#[]⟩, .nilIface] 107)).heap[bt]? = some (.cells #[.int .i64 order, lv] 71 (0, 0)) := (Below.heap_alloc _ _ _ (by simpa using hlt2)).trans ((blk_set ((hb2.block _ hlt).trans HH.out) 1 lv).trans rfl)
      have HG := Aside0.mk hG
      have HM5 := Aside0.mk hM5
      have HH5 := Aside0.mk hH5
      have hcn := count_any ((NK d).K_of_M hM5)
      have hsz5 : size d s1 ≤ 1099511627776 := by
        have : size d s1 + 0 ≤ size d t + 1 := hps
        omega
      clear hMl hG hG2 hM5 hH5 hb2 hps
      rcases hcn with ⟨lb, rfl, hcn⟩ | ⟨lb, rfl, hcn⟩
      all_goals
        have HCN := Aside0.mk hcn
        clear hcn
        go_wp2_with fail
        refine HCN.out.mono ?_
        rintro e w' ⟨rfl, rfl⟩
        go_wp2
        go_ret2
        exact ⟨by simp, HG.out, _, HH5.out, HM5.out⟩
  · rcases count_any hK with ⟨bb, rfl, hcnt⟩ | ⟨bb, rfl, hcnt⟩
    all_goals
      have HC := Aside0.mk hcnt
      clear hcnt hK hh
      go_enter Try.func25, Try.ntmps25
      go_wp2_with fail
      refine hno.out.mono ?_
      rintro e w' ⟨rfl, rfl⟩
      go_wp2_with fail
      refine HC.out.mono ?_
      rintro e w' ⟨rfl, rfl⟩
      go_wp2_with fail
      refine HP.out.mono ?_
      rintro e w2 ⟨hb2, lv, rv, rfl, hMl, hMr⟩
      have y1 := pw_cell_below hb2 x1
      have g1 : w2.frozen? ⟨bt, 1, none⟩ = false := (hb2.frozen (p := ⟨bt, 1, none⟩) hlt).trans f1
      have hlt2 : bt < w2.heap.size := Nat.lt_of_lt_of_le hlt hb2.size
      have hG2 : w2.grownBy ((w2.setCell ⟨bt, 1, none⟩ lv).alloc (.cells #[lv, .string mid, rv] 107)) (some bt) := gb_alloc (gb_set (grownBy_refl _ _) _ _) _
      have hG : w.grownBy ((w2.setCell ⟨bt, 1, none⟩ lv).alloc (.cells #[lv, .string mid, rv] 107)) (some bt) := grownBy_trans (gb_below hb2 (grownBy_refl _ _)) hG2
      have hH5 : ((w2.setCell ⟨bt, 1, none⟩ lv).alloc (.cells #[lv, .string mid, rv] 107)).heap[bt]? = some (.cells #[.int .i64 order, lv] 71 (0, 0)) := (Below.heap_alloc _ _ _ (by simpa using hlt2)).trans ((blk_set ((hb2.block _ hlt).trans HH.out) 1 lv).trans rfl)
      have hsz5 : size d s1 + size d s2 ≤ 1099511627776 := by
        have : size d s1 + size d s2 ≤ size d t + 1 := hps
        omega
      obtain ⟨ty, lb, rfl⟩ := NK_form ((NK d).K_of_M hMl)
      obtain ⟨ty2, lb2, rfl⟩ := NK_form ((NK d).K_of_M hMr)
      have hw2 : w.heap.size ≤ w2.heap.size := hb2.size
      have HMl := Aside0.mk (M_step' hMl hG2 hbt)
      have HMr := Aside0.mk (M_step' hMr hG2 hbt)
      have HG := Aside0.mk hG
      have HH5 := Aside0.mk hH5
      clear hMl hMr hG hG2 hH5 hb2 hps
      go_wp2_with fail
      have hlt5 : bt < ((w2.setCell ⟨bt, 1, none⟩ (.iface ty (.pointer (some ⟨lb, 0, none⟩)))).alloc (.cells #[.iface ty (.pointer (some ⟨lb, 0, none⟩)), .string mid, .iface ty2 (.pointer (some ⟨lb2, 0, none⟩))] 107)).heap.size := blk_lt HH5.out
      have hw5 : w.heap.size ≤ ((w2.setCell ⟨bt, 1, none⟩ (.iface ty (.pointer (some ⟨lb, 0, none⟩)))).alloc (.cells #[.iface ty (.pointer (some ⟨lb, 0, none⟩)), .string mid, .iface ty2 (.pointer (some ⟨lb2, 0, none⟩))] 107)).heap.size := HG.out.size
      have eK : ((w2.setCell ⟨bt, 1, none⟩ (.iface ty (.pointer (some ⟨lb, 0, none⟩)))).alloc (.cells #[.iface ty (.pointer (some ⟨lb, 0, none⟩)), .string mid, .iface ty2 (.pointer (some ⟨lb2, 0, none⟩))] 107)).heap.size = w2.heap.size + 1 := by simp
      generalize (w2.setCell ⟨bt, 1, none⟩ (.iface ty (.pointer (some ⟨lb, 0, none⟩)))).alloc (.cells #[.iface ty (.pointer (some ⟨lb, 0, none⟩)), .string mid, .iface ty2 (.pointer (some ⟨lb2, 0, none⟩))] 107) = W5 at *
      have hk7 : ((W5.alloc (.cells #[.string mid] 9)).alloc (.cells #[.iface ty (.pointer (some ⟨lb, 0, none⟩)), .iface ty2 (.pointer (some ⟨lb2, 0, none⟩))] 69)).heap[w2.heap.size + 1]? = some (.cells #[.string mid] 9 (0, 0)) := by
        rw [← eK]
        exact (Below.heap_alloc _ _ _ (by simp)).trans (heap_alloc_new W5 _)
      have hc7 : ((W5.alloc (.cells #[.string mid] 9)).alloc (.cells #[.iface ty (.pointer (some ⟨lb, 0, none⟩)), .iface ty2 (.pointer (some ⟨lb2, 0, none⟩))] 69)).heap[w2.heap.size + 1 + 1]? = some (.cells #[.iface ty (.pointer (some ⟨lb, 0, none⟩)), .iface ty2 (.pointer (some ⟨lb2, 0, none⟩))] 69 (0, 0)) := by
        rw [← eK, show W5.heap.size + 1 = (W5.alloc (.cells #[.string mid] 9)).heap.size by simp]
        exact heap_alloc_new _ _
      have hB7 : Below W5.heap.size W5 ((W5.alloc (.cells #[.string mid] 9)).alloc (.cells #[.iface ty (.pointer (some ⟨lb, 0, none⟩)), .iface ty2 (.pointer (some ⟨lb2, 0, none⟩))] 69)) := below_mk (below_mk (Below.refl _ _) _) _
      have hs7 : ((W5.alloc (.cells #[.string mid] 9)).alloc (.cells #[.iface ty (.pointer (some ⟨lb, 0, none⟩)), .iface ty2 (.pointer (some ⟨lb2, 0, none⟩))] 69)).heap.size = W5.heap.size + 1 + 1 := by simp
      generalize (W5.alloc (.cells #[.string mid] 9)).alloc (.cells #[.iface ty (.pointer (some ⟨lb, 0, none⟩)), .iface ty2 (.pointer (some ⟨lb2, 0, none⟩))] 69) = W7 at *
      have HNI := newInner_lit hk7 hc7 (M_below' HMl.out hB7) (M_below' HMr.out hB7) (fun k h => hok k (by omega)) (hok _ (by omega)) (hok _ (by omega)) hsz5
      have hh7 := (hB7.block _ hlt5).trans HH5.out
      have hlt7 : bt < W7.heap.size := blk_lt hh7
      have HG7 := Aside0.mk (gb_below hB7 HG.out)
      have HH7 := Aside0.mk hh7
      clear hk7 hc7 hB7 HMl HMr HG HH5 hh7 eK hs7
      refine HNI.mono ?_
      rintro e w8 ⟨nb, rfl, hnb, hM8, hb8⟩
      have hh8 := (hb8.block _ hlt7).trans HH7.out
      have hlt8 : bt < w8.heap.size := blk_lt hh8
      have z1 : w8.cell? ⟨bt, 1, none⟩ = some (.iface ty (.pointer (some ⟨lb, 0, none⟩))) := (blk_cell hh8 1).trans rfl
      have zf : w8.frozen? ⟨bt, 1, none⟩ = false := blk_frozen hh8 1
      have hG9 : w8.grownBy (w8.setCell ⟨bt, 1, none⟩ (.iface 78 (.pointer (some ⟨nb, 0, none⟩)))) (some bt) := gb_set (grownBy_refl _ _) _ _
      have hM9 := M_step' hM8 hG9 hbt
      have hh9 : (w8.setCell ⟨bt, 1, none⟩ (.iface 78 (.pointer (some ⟨nb, 0, none⟩)))).heap[bt]? = some (.cells #[.int .i64 order, .iface 78 (.pointer (some ⟨nb, 0, none⟩))] 71 (0, 0)) := (blk_set hh8 1 _).trans rfl
      have HG9 := Aside0.mk (grownBy_trans (gb_below hb8 HG7.out) hG9)
      have HH9 := Aside0.mk hh9
      have HM9 := Aside0.mk hM9
      have hcn := count_any ((NK (d + 1)).K_of_M hM9)
      have HCN : Aside0 (Calls Try.prog 114 #[.pointer (some ⟨nb, 0, none⟩)] (w8.setCell ⟨bt, 1, none⟩ (.iface 78 (.pointer (some ⟨nb, 0, none⟩)))) fun e w' => e = .returned (.int .i64 (size d s1 + size d s2 : Nat)) ∧ (w8.setCell ⟨bt, 1, none⟩ (.iface 78 (.pointer (some ⟨nb, 0, none⟩)))) = w') := by
        rcases hcn with ⟨q, e, _⟩ | ⟨q, e, h⟩
        · cases e
        · cases e
          have e2 : size (d + 1) (([mid], [s1, s2]) : List ByteArray × List (T d)) = size d s1 + size d s2 := by show ([s1, s2].map (size d)).sum = _; simp
          rw [e2] at h
          exact ⟨h⟩
      clear hM8 hb8 hh8 hG9 hM9 hh9 hcn y1 g1 hlt2 HNI HG7 HH7
      go_wp2_with fail
      refine HCN.out.mono ?_
      rintro e w' ⟨rfl, rfl⟩
      go_wp2
      go_ret2
      refine ⟨?_, HG9.out, _, HH9.out, HM9.out⟩
      have e2 : size (d + 1) (([mid], [s1, s2]) : List ByteArray × List (T d)) = size d s1 + size d s2 := by show ([s1, s2].map (size d)).sum = _; simp
      simp only [e2]
      simp
      try omega

end Go.Proofs.Ytjabcdfbncglnaa
namespace Go.Proofs.Ytjabcdfbncglnaa
open Go.RowKit Go.Proofs.YtjabcdfbncglnaaW.PrintWords Go.Proofs.YtjabcdfbncglnaaW.PrintLast Go.Proofs.YtjabcdfbncglnaaW.PrintMore
open PTreeRanks (S59 k59 z59)
set_option linter.unusedVariables false
set_option linter.unusedSimpArgs false

theorem take_rank {ks : List ByteArray} {k : ByteArray} (hs : SortedK ks) : ∀ x ∈ ks.take (rank ks k), blt x k = true := by
  intro x hx
  obtain ⟨i, hi, rfl⟩ := List.getElem_of_mem hx
  rw [List.length_take] at hi
  rw [List.getElem_take]
  exact (rank_lt hs i (by omega)).2 (by omega)
theorem drop_rank {ks : List ByteArray} {k : ByteArray} (hs : SortedK ks) : ∀ x ∈ ks.drop (rank ks k + if has ks k then 1 else 0), blt k x = true := by
  intro x hx
  obtain ⟨i, hi, rfl⟩ := List.getElem_of_mem hx
  rw [List.length_drop] at hi
  rw [List.getElem_drop]
  have hr := rank_le ks k
  by_cases h : has ks k = true
  · rw [if_pos h] at hi
    have h1 := has_lt h
    have h2 : ks[rank ks k] = k := by
      unfold has at h
      have := of_decide_eq_true h
      rw [List.getElem?_eq_getElem h1] at this
      exact Option.some.inj this
    have h3 := List.pairwise_iff_getElem.1 hs (rank ks k) (rank ks k + 1 + i) h1 (by omega) (by omega)
    rw [h2] at h3
    simp only [h, if_true]
    exact h3
  · simp only [h, Bool.false_eq_true, if_false, Nat.add_zero] at hi ⊢
    have h1 : ¬ blt ks[rank ks k + i] k = true := fun e => by
      have := (rank_lt hs _ (by omega)).1 e
      omega
    cases h2 : blt k ks[rank ks k + i] with
    | true => rfl
    | false =>
      have e := blt_tri (Bool.eq_false_iff.2 h1) h2
      have : k ∈ ks := by rw [← e]; exact List.getElem_mem _
      exact absurd ((has_iff hs).2 this) h

theorem keysOf_insL (l : List S59) (k : ByteArray) (x : Int) : keysOf (insL l k x) = (keysOf l).take (rank (keysOf l) k) ++ k :: (keysOf l).drop (rank (keysOf l) k + if has (keysOf l) k then 1 else 0) := by
  unfold insL
  rw [keysOf_append]
  unfold keysOf
  rw [List.map_cons, List.map_take, List.map_drop]
theorem insL_sorted {l : List S59} (hs : SortedK (keysOf l)) (k : ByteArray) (x : Int) : SortedK (keysOf (insL l k x)) := by
  rw [keysOf_insL]
  refine List.pairwise_append.2 ⟨sorted_take hs _, List.pairwise_cons.2 ⟨drop_rank hs, sorted_drop hs _⟩, ?_⟩
  intro a ha b hb
  have h1 := take_rank hs a ha
  rcases List.mem_cons.1 hb with rfl | hb
  · exact h1
  · exact blt_trans h1 (drop_rank hs b hb)
theorem insL_mem {l : List S59} {k : ByteArray} {x : Int} {y : ByteArray} (h : y ∈ keysOf (insL l k x)) : y = k ∨ y ∈ keysOf l := by
  rw [keysOf_insL] at h
  rcases List.mem_append.1 h with h | h
  · exact .inr (List.mem_of_mem_take h)
  · rcases List.mem_cons.1 h with h | h
    · exact .inl h
    · exact .inr (List.mem_of_mem_drop h)
theorem insL_length (l : List S59) (k : ByteArray) (x : Int) : (insL l k x).length = l.length + if has (keysOf l) k then 0 else 1 := by
  unfold insL
  have h0 := rank_le (keysOf l) k
  rw [keysOf_length] at h0
  rw [List.length_append, List.length_cons, List.length_take, List.length_drop]
  by_cases h : has (keysOf l) k = true
  · have := has_lt h
    rw [keysOf_length] at this
    simp only [h, if_true]
    omega
  · simp only [h]
    simp
    omega

theorem putLeaf_WF {order m : Nat} (ho : 3 ≤ order) {lo hi : Option ByteArray} {l : List S59} {k : ByteArray} {x : Int} (h : WF order 0 m lo hi l) (hk : inR lo hi k) : PutWF order 0 m lo hi (insL l k x) (putLeaf order l k x) := by
  obtain ⟨h1, h2, h3, h4⟩ := WF_zero.1 h
  have hs := insL_sorted h1 k x
  have hr : ∀ y ∈ keysOf (insL l k x), inR lo hi y := fun y hy => by
    rcases insL_mem hy with rfl | hy
    · exact hk
    · exact h2 y hy
  have hlen := insL_length l k x
  unfold putLeaf
  by_cases hh : has (l.map S59.f0) k = true
  · rw [if_pos hh]
    have e : l.set (rank (l.map S59.f0) k) ⟨k, x⟩ = insL l k x := by
      have hlt := has_lt hh
      rw [List.length_map] at hlt
      rw [List.set_eq_take_append_cons_drop, if_pos hlt]
      unfold insL keysOf
      rw [if_pos hh]
    rw [e]
    unfold keysOf at hlen
    rw [if_pos hh] at hlen
    exact ⟨WF_zero.2 ⟨hs, hr, by omega, by omega⟩, rfl⟩
  · rw [if_neg hh]
    have e : l.take (rank (l.map S59.f0) k) ++ ⟨k, x⟩ :: l.drop (rank (l.map S59.f0) k) = insL l k x := by
      unfold insL keysOf
      rw [if_neg hh, Nat.add_zero]
    rw [e]
    unfold keysOf at hlen
    rw [if_neg hh] at hlen
    exact halveLeafT_WF ho hs hr (by omega) (by omega)

theorem WK_append {α : Type} {P : Option ByteArray → Option ByteArray → α → Prop} {k : ByteArray} {ks2 : List ByteArray} {cs2 : List α} {hi : Option ByteArray} : ∀ {ks1 : List ByteArray} {cs1 : List α} {lo : Option ByteArray}, cs1.length = ks1.length + 1 →
    (WK P lo hi (ks1 ++ k :: ks2) (cs1 ++ cs2) ↔ WK P lo (some k) ks1 cs1 ∧ WK P (some k) hi ks2 cs2)
  | [], [c], lo, _ => Iff.rfl
  | [], [], _, h => by simp at h
  | [], _ :: _ :: _, _, h => by simp at h
  | _ :: _, [], _, h => by simp at h
  | k1 :: ks1, c :: cs1, lo, h => by
    show (P lo (some k1) c ∧ WK P (some k1) hi (ks1 ++ k :: ks2) (cs1 ++ cs2)) ↔ (P lo (some k1) c ∧ WK P (some k1) (some k) ks1 cs1) ∧ _
    rw [WK_append (by simpa using h)]
    exact and_assoc.symm

theorem halveT_WF {order d m : Nat} (ho : 3 ≤ order) {lo hi : Option ByteArray} {ks : List ByteArray} {cs : List (T d)} (h : WK (WF order d (minOf order d)) lo hi ks cs) (hm : m ≤ cs.length) (hl : cs.length ≤ 2 * order) :
    PutWF order (d + 1) m lo hi (cs.flatMap (toList d)) (halveT order ks cs) := by
  unfold halveT
  have hlen := WK_length h
  by_cases hc : cs.length ≤ order
  · rw [if_pos hc]
    exact ⟨WF_succ.2 ⟨h, hc, hm⟩, rfl⟩
  · rw [if_neg hc]
    have h2 : cs.length / 2 - 1 < ks.length := by omega
    have e1 : ks = ks.take (cs.length / 2 - 1) ++ ks[cs.length / 2 - 1] :: ks.drop (cs.length / 2) := by
      conv => lhs; rw [← List.take_append_drop (cs.length / 2 - 1) ks, List.drop_eq_getElem_cons h2]
      rw [show cs.length / 2 - 1 + 1 = cs.length / 2 by omega]
    have e2 : cs = cs.take (cs.length / 2) ++ cs.drop (cs.length / 2) := (List.take_append_drop _ _).symm
    have e3 : ks.getD (cs.length / 2 - 1) ByteArray.empty = ks[cs.length / 2 - 1] := by rw [List.getD_eq_getElem?_getD, List.getElem?_eq_getElem h2]; rfl
    have h3 : WK (WF order d (minOf order d)) lo hi (ks.take (cs.length / 2 - 1) ++ ks[cs.length / 2 - 1] :: ks.drop (cs.length / 2)) (cs.take (cs.length / 2) ++ cs.drop (cs.length / 2)) := by rw [← e1, ← e2]; exact h
    rw [WK_append (by rw [List.length_take, List.length_take]; omega)] at h3
    rw [e3]
    refine ⟨WF_succ.2 ⟨h3.1, ?_, ?_⟩, WF_succ.2 ⟨h3.2, ?_, ?_⟩, ?_⟩
    · rw [List.length_take]; omega
    · rw [List.length_take]; show (order + 1) / 2 ≤ _; omega
    · rw [List.length_drop]; omega
    · rw [List.length_drop]; show (order + 1) / 2 ≤ _; omega
    · rw [toList_inner, toList_inner, ← List.flatMap_append, List.take_append_drop]

theorem put_WF {order : Nat} (ho : 3 ≤ order) {k : ByteArray} {x : Int} : ∀ {d m : Nat} {lo hi : Option ByteArray} {t : T d}, WF order d m lo hi t → inR lo hi k → PutWF order d m lo hi (insL (toList d t) k x) (putT order d t k x)
  | 0, m, lo, hi, l, h, hk => putLeaf_WF ho h hk
  | d + 1, m, lo, hi, (ks, cs), h, hk => by
    obtain ⟨h1, h2, h3⟩ := WF_succ.1 h
    obtain ⟨f1, f2, f3, f4⟩ := WK_facts (WF_P ho d) h1
    obtain ⟨c, l, u, e1, e2, e3, e4, e5, e6, e7⟩ := focus (WF_P ho d) h1 hk
    rw [← kx_eq f1] at e1 e4 e5 e6 e7
    obtain ⟨hlt, rfl⟩ := List.getElem?_eq_some_iff.1 e1
    rw [putT_inner order k x hlt]
    have ih := put_WF (x := x) ho e2 e3
    have hL : insL (toList (d + 1) ((ks, cs) : List ByteArray × List (T d))) k x = (cs.take (kidIx ks k)).flatMap (toList d) ++ insL (toList d cs[kidIx ks k]) k x ++ (cs.drop (kidIx ks k + 1)).flatMap (toList d) := by
      rw [← insL_mid x e4 e5, toList_inner]
      congr 1
      conv => lhs; rw [← List.take_append_drop (kidIx ks k) cs, List.drop_eq_getElem_cons hlt, List.flatMap_append, List.flatMap_cons]
      rw [List.append_assoc]
    rw [hL]
    generalize insL (toList d cs[kidIx ks k]) k x = L at *
    generalize putT order d cs[kidIx ks k] k x = s at *
    have hset : ∀ c', (cs.set (kidIx ks k) c').flatMap (toList d) = (cs.take (kidIx ks k)).flatMap (toList d) ++ toList d c' ++ (cs.drop (kidIx ks k + 1)).flatMap (toList d) := fun c' => by
      rw [List.set_eq_take_append_cons_drop, if_pos hlt, List.flatMap_append, List.flatMap_cons, List.append_assoc]
    obtain ⟨s1, _ | ⟨mid, s2⟩⟩ := s
    · obtain ⟨i1, i2⟩ := ih
      refine ⟨WF_succ.2 ⟨e6 _ i1, by rw [List.length_set]; exact h2, by rw [List.length_set]; exact h3⟩, ?_⟩
      rw [toList_inner, hset, i2]
    · obtain ⟨i1, i2, i3⟩ := ih
      show PutWF order (d + 1) m lo hi _ (halveT order (ks.take (kidIx ks k) ++ mid :: ks.drop (kidIx ks k)) ((cs.set (kidIx ks k) s1).take (kidIx ks k + 1) ++ s2 :: (cs.set (kidIx ks k) s1).drop (kidIx ks k + 1)))
      have hw := halveT_WF (m := m) ho (e7 s1 mid s2 i1 i2) (by simp only [List.length_append, List.length_take, List.length_cons, List.length_drop, List.length_set]; omega) (by simp only [List.length_append, List.length_take, List.length_cons, List.length_drop, List.length_set]; omega)
      have eL : ((cs.set (kidIx ks k) s1).take (kidIx ks k + 1) ++ s2 :: (cs.set (kidIx ks k) s1).drop (kidIx ks k + 1)).flatMap (toList d) = (cs.take (kidIx ks k)).flatMap (toList d) ++ L ++ (cs.drop (kidIx ks k + 1)).flatMap (toList d) := by
        rw [List.set_eq_take_append_cons_drop, if_pos hlt]
        have ht : (cs.take (kidIx ks k)).length = kidIx ks k := by rw [List.length_take]; omega
        rw [List.take_append, List.drop_append, ht]
        simp only [List.take_take, List.drop_take, Nat.add_sub_cancel_left, List.take_succ_cons, List.take_zero, List.drop_succ_cons, List.drop_zero]
        rw [show min (kidIx ks k + 1) (kidIx ks k) = kidIx ks k by omega, show kidIx ks k - (kidIx ks k + 1) = 0 by omega, List.take_zero, List.nil_append, ← i3]
        simp [List.flatMap_append, List.flatMap_cons, List.append_assoc]
      rw [eL] at hw
      exact hw

/-- A tree as a whole. -/
def WFA (order : Nat) (t : AT) : Prop := WF order t.1 (if t.1 = 0 then 0 else 2) none none t.2
def listA (t : AT) : List S59 := toList t.1 t.2

theorem putRoot_WF {order : Nat} (ho : 3 ≤ order) {t : AT} (h : WFA order t) (k : ByteArray) (x : Int) : WFA order (putRoot order t k x) ∧ listA (putRoot order t k x) = insL (listA t) k x := by
  obtain ⟨d, t⟩ := t
  have h1 : WF order d (if d = 0 then 0 else 2) none none t := h
  have h := put_WF (k := k) (x := x) ho h1 ⟨(fun l e => by cases e), (fun u e => by cases e)⟩
  unfold putRoot WFA listA
  dsimp only at h ⊢
  generalize putT order d t k x = s at *
  obtain ⟨s1, _ | ⟨mid, s2⟩⟩ := s
  · exact h
  · obtain ⟨h1, h2, h3⟩ := h
    refine ⟨?_, ?_⟩
    · show WF order (d + 1) 2 none none (([mid], [s1, s2]) : List ByteArray × List (T d))
      exact WF_succ.2 ⟨⟨h1, h2⟩, by show 2 ≤ order; omega, Nat.le_refl _⟩
    · show toList (d + 1) (([mid], [s1, s2]) : List ByteArray × List (T d)) = _
      rw [toList_inner]
      simpa using h3

theorem Shape_of_WF {order : Nat} (ho : 3 ≤ order) (ho2 : order ≤ 64) : ∀ {d m : Nat} {lo hi : Option ByteArray} {t : T d}, WF order d m lo hi t → Shape d t
  | 0, m, lo, hi, l, h => by
    obtain ⟨h1, _, h3, _⟩ := WF_zero.1 h
    exact ⟨h1, by have : l.length + 1 ≤ order := h3; omega⟩
  | d + 1, m, lo, hi, (ks, cs), h => by
    obtain ⟨h1, h2, h3⟩ := WF_succ.1 h
    obtain ⟨f1, _, _, _⟩ := WK_facts (WF_P ho d) h1
    have := WK_length h1
    refine ⟨f1, this, by show ks.length ≤ 900; omega, fun c hc => ?_⟩
    obtain ⟨l, u, hw⟩ := WK_mem h1 c hc
    exact Shape_of_WF ho ho2 hw

end Go.Proofs.Ytjabcdfbncglnaa
namespace Go.Proofs.Ytjabcdfbncglnaa
open Go.RowKit Go.Proofs.YtjabcdfbncglnaaW.PrintWords Go.Proofs.YtjabcdfbncglnaaW.PrintLast Go.Proofs.YtjabcdfbncglnaaW.PrintMore
open PTreeRanks (S59 k59 z59)
set_option linter.unusedVariables false
set_option linter.unusedSimpArgs false

theorem rank_mid {A M C : List S59} {k : ByteArray} (hA : ∀ y ∈ A, blt y.f0 k = true) (hC : ∀ y ∈ C, blt k y.f0 = true) : rank (keysOf (A ++ M ++ C)) k = A.length + rank (keysOf M) k := by
  have r1 : rank (keysOf A) k = A.length := by
    rw [← keysOf_length]
    exact rank_all fun y hy => by obtain ⟨z, hz, rfl⟩ := List.mem_map.1 hy; exact hA z hz
  have r2 : rank (keysOf C) k = 0 := rank_zero fun y hy => by obtain ⟨z, hz, rfl⟩ := List.mem_map.1 hy; exact blt_asymm (hC z hz)
  rw [keysOf_append, keysOf_append, rank_append, rank_append, r1, r2, Nat.add_zero]
theorem has_mid {A M C : List S59} {k : ByteArray} (hA : ∀ y ∈ A, blt y.f0 k = true) (hC : ∀ y ∈ C, blt k y.f0 = true) : has (keysOf (A ++ M ++ C)) k = has (keysOf M) k := by
  unfold has
  rw [rank_mid hA hC, keysOf_append, keysOf_append, List.append_assoc, List.getElem?_append_right (by rw [keysOf_length]; omega), keysOf_length, Nat.add_sub_cancel_left]
  have hr := rank_le (keysOf M) k
  rcases Nat.lt_or_ge (rank (keysOf M) k) (keysOf M).length with h | h
  · rw [List.getElem?_append_left h]
  · rw [List.getElem?_append_right h, List.getElem?_eq_none h]
    have e : rank (keysOf M) k - (keysOf M).length = 0 := by omega
    rw [e]
    cases hC0 : C with
    | nil => rfl
    | cons c C' =>
      have := hC c (by rw [hC0]; exact List.mem_cons_self)
      have hne : c.f0 ≠ k := fun e => by rw [e, blt_irrefl] at this; cases this
      have h1 : decide (some c.f0 = some k) = false := decide_eq_false (by intro e; exact hne (by injection e))
      have h2 : decide ((none : Option ByteArray) = some k) = false := rfl
      exact h1.trans h2.symm
theorem getV_mid {A M C : List S59} {k : ByteArray} (hA : ∀ y ∈ A, blt y.f0 k = true) (hC : ∀ y ∈ C, blt k y.f0 = true) : getV (A ++ M ++ C) k = getV M k := by
  have h1 : has ((A ++ M ++ C).map S59.f0) k = has (M.map S59.f0) k := has_mid hA hC
  have h2 : rank ((A ++ M ++ C).map S59.f0) k = A.length + rank (M.map S59.f0) k := rank_mid hA hC
  unfold getV
  rw [h1, h2]
  by_cases h : has (M.map S59.f0) k = true
  · rw [if_pos h, if_pos h]
    have hl := has_lt h
    rw [List.length_map] at hl
    rw [List.getD_eq_getElem?_getD, List.getD_eq_getElem?_getD, List.append_assoc, List.getElem?_append_right (by omega), Nat.add_sub_cancel_left, List.getElem?_append_left hl]
  · rw [if_neg h, if_neg h]

/-- Where a key stands in a tree. -/
theorem tree_focus {order : Nat} (ho : 3 ≤ order) {k : ByteArray} : ∀ {d m : Nat} {lo hi : Option ByteArray} {t : T d}, WF order d m lo hi t → inR lo hi k →
    ∃ A C, toList d t = A ++ leafOf d t k ++ C ∧ (∀ y ∈ A, blt y.f0 k = true) ∧ (∀ y ∈ C, blt k y.f0 = true) ∧ rankT d t k = A.length + rank (keysOf (leafOf d t k)) k
  | 0, m, lo, hi, l, h, hk => ⟨[], [], by rw [List.append_nil]; rfl, (fun y hy => by cases hy), (fun y hy => by cases hy), by rw [List.length_nil, Nat.zero_add]; rfl⟩
  | d + 1, m, lo, hi, (ks, cs), h, hk => by
    obtain ⟨h1, h2, h3⟩ := WF_succ.1 h
    obtain ⟨f1, f2, f3, f4⟩ := WK_facts (WF_P ho d) h1
    obtain ⟨c, l, u, e1, e2, e3, e4, e5, e6, e7⟩ := focus (WF_P ho d) h1 hk
    rw [← kx_eq f1] at e1 e4 e5 e6 e7
    obtain ⟨hlt, rfl⟩ := List.getElem?_eq_some_iff.1 e1
    obtain ⟨A, C, i1, i2, i3, i4⟩ := tree_focus ho e2 e3
    refine ⟨(cs.take (kidIx ks k)).flatMap (toList d) ++ A, C ++ (cs.drop (kidIx ks k + 1)).flatMap (toList d), ?_, ?_, ?_, ?_⟩
    · rw [leafOf_inner k hlt, toList_inner]
      conv => lhs; rw [← List.take_append_drop (kidIx ks k) cs, List.drop_eq_getElem_cons hlt, List.flatMap_append, List.flatMap_cons, i1]
      simp only [List.append_assoc]
    · intro y hy
      rcases List.mem_append.1 hy with hy | hy
      · exact e4 y hy
      · exact i2 y hy
    · intro y hy
      rcases List.mem_append.1 hy with hy | hy
      · exact i3 y hy
      · exact e5 y hy
    · rw [leafOf_inner k hlt, rankT_inner k hlt, i4, List.length_append, List.length_flatMap]
      have : (List.map (fun c => (toList d c).length) (cs.take (kidIx ks k))).sum = sizes (cs.take (kidIx ks k)) := by
        unfold sizes
        congr 1
        exact List.map_congr_left fun c _ => (size_eq d c).symm
      rw [this]
      omega

theorem inR_none (k : ByteArray) : inR none none k := ⟨(fun l e => by cases e), (fun u e => by cases e)⟩
theorem rank_A {order : Nat} (ho : 3 ≤ order) {t : AT} (h : WFA order t) (k : ByteArray) : rankT t.1 t.2 k = rank (keysOf (listA t)) k := by
  obtain ⟨A, C, h1, h2, h3, h4⟩ := tree_focus ho h (inR_none k)
  unfold listA
  rw [h1, h4, rank_mid h2 h3]
theorem has_A {order : Nat} (ho : 3 ≤ order) {t : AT} (h : WFA order t) (k : ByteArray) : has ((leafOf t.1 t.2 k).map S59.f0) k = has (keysOf (listA t)) k := by
  obtain ⟨A, C, h1, h2, h3, h4⟩ := tree_focus ho h (inR_none k)
  unfold listA
  rw [h1, has_mid h2 h3]
  rfl
theorem get_A {order : Nat} (ho : 3 ≤ order) {t : AT} (h : WFA order t) (k : ByteArray) : getV (leafOf t.1 t.2 k) k = getV (listA t) k := by
  obtain ⟨A, C, h1, h2, h3, h4⟩ := tree_focus ho h (inR_none k)
  unfold listA
  rw [h1, getV_mid h2 h3]
theorem listA_sorted {order : Nat} (ho : 3 ≤ order) {t : AT} (h : WFA order t) : SortedK (keysOf (listA t)) := WF_sorted ho h
theorem sizeA_eq (t : AT) : sizeA t = (listA t).length := size_eq t.1 t.2

/-- The element with a number, asked for by its key. -/
theorem at_rank {l : List S59} (hs : SortedK (keysOf l)) (i : Nat) (h : i < l.length) : rank (keysOf l) l[i].f0 = i ∧ has (keysOf l) l[i].f0 = true ∧ getV l l[i].f0 = l[i].f1 := by
  have hi : i < (keysOf l).length := by rw [keysOf_length]; exact h
  have hk : (keysOf l)[i] = l[i].f0 := List.getElem_map (l := l) S59.f0
  have hr : rank (keysOf l) l[i].f0 = i := by
    have h1 := rank_lt (k := l[i].f0) hs i hi
    rw [hk, blt_irrefl] at h1
    have h1 : ¬ i < rank (keysOf l) l[i].f0 := fun e => by have := h1.2 e; cases this
    have hle := rank_le (keysOf l) l[i].f0
    rcases Nat.lt_or_ge (rank (keysOf l) l[i].f0) i with h2 | h2
    · have h3 := rank_lt (k := l[i].f0) hs (rank (keysOf l) l[i].f0) (by omega)
      have h4 := List.pairwise_iff_getElem.1 hs (rank (keysOf l) l[i].f0) i (by omega) hi h2
      rw [hk] at h4
      have := h3.1 h4
      omega
    · omega
  have hh : has (keysOf l) l[i].f0 = true := (has_iff hs).2 (by rw [← hk]; exact List.getElem_mem _)
  refine ⟨hr, hh, ?_⟩
  unfold getV
  have hh' : has (l.map S59.f0) l[i].f0 = true := hh
  have hr' : rank (l.map S59.f0) l[i].f0 = i := hr
  rw [if_pos hh', hr', List.getD_eq_getElem?_getD, List.getElem?_eq_getElem h]
  rfl

end Go.Proofs.Ytjabcdfbncglnaa
namespace Go.Proofs.Ytjabcdfbncglnaa
open Go.RowKit Go.Proofs.YtjabcdfbncglnaaW.PrintWords Go.Proofs.YtjabcdfbncglnaaW.PrintLast Go.Proofs.YtjabcdfbncglnaaW.PrintMore
open PTreeRanks (S59 k59 z59)
set_option linter.unusedVariables false
set_option linter.unusedSimpArgs false

theorem rd_eq (l : List S59) (i : Nat) (h : i < l.length) : PTreeRanks.rd_T59 l (i : Int) = l[i] := by
  unfold PTreeRanks.rd_T59
  rw [Int.toNat_natCast, List.getD_eq_getElem?_getD, List.getElem?_eq_getElem h]
  rfl
theorem wrap_small (n : Int) (h0 : 0 ≤ n) (h : n < 9223372036854775808) : wrap64 n = n := by
  unfold wrap64
  omega

theorem refRank_l {l : List S59} {k : ByteArray} (hs : SortedK (keysOf l)) (hn : l.length < 5864062014805) : ∀ (m i : Nat), i ≤ rank (keysOf l) k → rank (keysOf l) k < i + m →
    PTreeRanks.keystoneref05_Rank.l0 m l k (i : Int) = some ((rank (keysOf l) k : Nat) : Int)
  | 0, i, h1, h2 => by omega
  | m + 1, i, h1, h2 => by
    unfold PTreeRanks.keystoneref05_Rank.l0
    have hr := rank_le (keysOf l) k
    rw [keysOf_length] at hr
    by_cases h : i < l.length
    · rw [if_pos (by omega), if_pos (by omega), rd_eq l i h]
      have hlt := rank_lt (k := k) hs i (by rw [keysOf_length]; exact h)
      have hk : (keysOf l)[i]'(by rw [keysOf_length]; exact h) = l[i].f0 := List.getElem_map (l := l) S59.f0
      rw [hk] at hlt
      by_cases h3 : i < rank (keysOf l) k
      · have := hlt.2 h3
        unfold blt at this
        rw [if_pos this, wrap_small _ (by omega) (by omega)]
        have := refRank_l (k := k) hs hn m (i + 1) h3 (by omega)
        exact this
      · have e : ¬ blt l[i].f0 k = true := fun e => h3 (hlt.1 e)
        unfold blt at e
        rw [if_neg e]
        have : i = rank (keysOf l) k := by omega
        rw [this]
    · rw [if_neg (by omega)]
      have : i = rank (keysOf l) k := by omega
      rw [this]

theorem refRank {l : List S59} (k : ByteArray) (hs : SortedK (keysOf l)) (hn : l.length < 5864062014805) : PTreeRanks.keystoneref05_Rank.f (l.length + 1) l k = some ((rank (keysOf l) k : Nat) : Int) := by
  have hr := rank_le (keysOf l) k
  rw [keysOf_length] at hr
  exact refRank_l hs hn _ 0 (Nat.zero_le _) (by omega)

theorem beq_decide (a b : ByteArray) : (a.toList == b.toList) = decide (a = b) := by
  by_cases h : a = b
  · subst h; simp
  · rw [decide_eq_false h]
    apply Bool.eq_false_iff.2
    intro e
    exact h (toList_inj (by simpa using e))

theorem refHas {l : List S59} (k : ByteArray) (hs : SortedK (keysOf l)) (hn : l.length < 5864062014805) : PTreeRanks.keystoneref05_Has.f (l.length + 1) l k = some (has (keysOf l) k) := by
  unfold PTreeRanks.keystoneref05_Has.f
  rw [refRank k hs hn]
  show (if ((rank (keysOf l) k : Nat) : Int) < (l.length : Int) then _ else _) = _
  by_cases h : rank (keysOf l) k < l.length
  · rw [if_pos (by omega), if_pos (by omega), rd_eq l _ h, beq_decide]
    congr 1
    have hk : (keysOf l)[rank (keysOf l) k]'(by rw [keysOf_length]; exact h) = l[rank (keysOf l) k].f0 := List.getElem_map (l := l) S59.f0
    unfold has
    rw [List.getElem?_eq_getElem (by rw [keysOf_length]; exact h), hk]
    simp
  · rw [if_neg (by omega)]
    congr 1
    unfold has
    rw [List.getElem?_eq_none (by rw [keysOf_length]; omega)]
    rfl

theorem refPut {l : List S59} (k : ByteArray) (x : Int) (hs : SortedK (keysOf l)) (hn : l.length < 5864062014800) : PTreeRanks.keystoneref05_Put.f (l.length + 1) l k x = some (insL l k x) := by
  unfold PTreeRanks.keystoneref05_Put.f
  rw [refRank k hs (by omega), refHas k hs (by omega)]
  have hr := rank_le (keysOf l) k
  rw [keysOf_length] at hr
  have hl := @has_lt (keysOf l) k
  rw [keysOf_length] at hl
  simp only [Option.bind_some]
  rw [if_pos (by omega), if_pos (by omega)]
  rw [if_pos (by simp; omega), if_pos (by simp; omega)]
  unfold insL
  by_cases h : has (keysOf l) k = true
  · have hl := hl h
    rw [if_pos h, if_pos h, wrap_small _ (by omega) (by omega), if_pos (by omega), if_pos (by omega)]
    rw [if_pos (by simp; omega)]
    congr 1
    have e : (((rank (keysOf l) k : Nat) : Int) + 1).toNat = rank (keysOf l) k + 1 := by omega
    rw [e, Int.toNat_natCast]
    simp
  · rw [if_neg h, if_neg h]
    rw [if_pos (by simp; omega)]
    congr 1
    simp
end Go.Proofs.Ytjabcdfbncglnaa
namespace Go.Proofs.Ytjabcdfbncglnaa
open Go.RowKit Go.Proofs.YtjabcdfbncglnaaW.PrintWords Go.Proofs.YtjabcdfbncglnaaW.PrintLast Go.Proofs.YtjabcdfbncglnaaW.PrintMore
open PTreeRanks (S59 k59 z59)
set_option linter.unusedVariables false
set_option linter.unusedSimpArgs false

theorem flat_skip {d : Nat} (cs : List (T d)) (j i : Nat) : (cs.flatMap (toList d))[sizes (cs.take j) + i]? = ((cs.drop j).flatMap (toList d))[i]? := by
  conv => lhs; rw [← List.take_append_drop j cs, List.flatMap_append]
  have e : sizes (cs.take j) = ((cs.take j).flatMap (toList d)).length := by
    rw [List.length_flatMap]
    unfold sizes
    congr 1
    exact List.map_congr_left fun c _ => size_eq d c
  rw [List.take_append_drop, e, List.getElem?_append_right (by omega)]
  congr 1
  omega

theorem flat_at {d : Nat} (cs : List (T d)) (j i : Nat) (h : j < cs.length) (hi : i < size d cs[j]) : (cs.flatMap (toList d))[sizes (cs.take j) + i]? = (toList d cs[j])[i]? := by
  rw [flat_skip, List.drop_eq_getElem_cons h, List.flatMap_cons, List.getElem?_append_left (by rw [← size_eq]; exact hi)]

/-- 'At' below a node whose element with that number there is. -/
def AtEnd (x : S59) (w : World) (e : Ending) (w' : World) : Prop := e = .returned (.tuple #[.string x.f0, .int .i64 x.f1, .bool true]) ∧ Drawn0 w w'

set_option maxRecDepth 100000 in
set_option maxHeartbeats 4000000 in
theorem at_yes (d b : Nat) (t : T d) (v : Value) (i : Nat) (x : S59) (w : World) (h1 : w.cell? ⟨b, 1, none⟩ = some v) (hK : (NK d).K w t [v]) (hB : size d t ≤ 1099511627776) (hx : (toList d t)[i]? = some x) :
    Calls Try.prog 13 #[.pointer (some ⟨b, 0, none⟩), .int .i64 i] w (AtEnd x w) := by
  have hlen := Aside0.mk (len_calls b d t v w h1 hK)
  have HK := Aside0.mk hK
  have hi : i < size d t := by rw [size_eq]; exact (List.getElem?_eq_some_iff.1 hx).1
  have HX := Aside0.mk hx
  clear hK hx
  have k1 := ta_leaf
  have k2 := ta_leaf_no
  have k3 := ta_inner
  have k4 := ta_inner_no
  have m1 := meth_leaf
  have m2 := meth_inner
  have hneg : decide ((i : Int) < 0) = false := decide_eq_false (by omega)
  have hge : decide (size d t ≤ i) = false := decide_eq_false (by omega)
  go_enter Try.func13, Try.ntmps13
  go_wp2_with fail
  refine hlen.out.mono ?_
  rintro e w' ⟨rfl, rfl⟩
  go_wp2
  clear hlen hneg hge
  go_loopg [1, 7] d (fun kq v1 v7 w' => ∃ (t' : T kq) (i' : Nat), v1 = .int .i64 i' ∧ Aside0 ((NK kq).K w' t' [v7]) ∧ Aside0 ((toList kq t')[i']? = some x) ∧ Aside0 (size kq t' ≤ 1099511627776) ∧ Drawn0 w w')
  case atStart => exact ⟨t, i, rfl, HK, HX, ⟨hB⟩, by repeat (first | exact Drawn0.refl _ | apply Drawn0.step)⟩
  case round =>
    clear HK HX hi
    obtain ⟨t', i', rfl, HK, HX, HR, hD⟩ := hrel
    have hD := Aside0.mk hD
    cases gk with
    | zero =>
      obtain ⟨l, rfl⟩ : ∃ l : List S59, l = t' := ⟨t', rfl⟩
      obtain ⟨bl, A, c, A', c', rfl, x0, x1, hc, hc', hA, hA'⟩ := leaf_open HK.out
      have hx : l[i']? = some x := HX.out
      obtain ⟨hil, hx⟩ := List.getElem?_eq_some_iff.1 hx
      obtain ⟨ad, rfl, q0⟩ := C_scalar hA i' (by rw [List.length_map]; exact hil)
      obtain ⟨ad', rfl, q1⟩ := C_scalar hA' i' (by rw [List.length_map]; exact hil)
      rw [List.getElem_map, hx] at q0 q1
      clear hx HX HR HK hA hA'
      go_wp2
      go_quiet (fail)
      go_wp2
      go_ret3
      exact ⟨rfl, D_trans hD.out (D_refl' _ _)⟩
    | succ g =>
      obtain ⟨ks, cs, rfl⟩ : ∃ (ks : List ByteArray) (cs : List (T g)), ((ks, cs) : List ByteArray × List (T g)) = t' := ⟨_, _, rfl⟩
      obtain ⟨bl, A, c, A', c', rfl, x0, x1, x2, hc, hc', hA, hA'⟩ := inner_open HK.out
      have HA' := Aside0.mk hA'
      have hxx : (cs.flatMap (toList g))[i']? = some x := HX.out
      have HXX := Aside0.mk hxx
      have hlen9 := hA'.2.1
      have hi'b : i' ≤ 1099511627776 := by
        have h1 := (List.getElem?_eq_some_iff.1 hxx).1
        have h2 : sizes cs = (cs.flatMap (toList g)).length := size_eq (g + 1) ((ks, cs) : List ByteArray × List (T g))
        have h3 : sizes cs ≤ 1099511627776 := HR.out
        omega
      have HRR : Aside0 (sizes cs ≤ 1099511627776) := ⟨HR.out⟩
      clear HX HR HK hA hA' hxx
      go_wp2
      go_loopw [1, 9] (fun v1 v9 w' => ∃ j i2 : Nat, v9 = .int .i64 j ∧ v1 = .int .i64 i2 ∧ Aside0 (sizes (cs.take j) + i2 = i') ∧ Drawn0 wr w') (fun _ v9 _ => cs.length - (intOf v9).toNat)
      case atStart => exact ⟨0, i', rfl, rfl, ⟨by simp [sizes]⟩, by repeat (first | exact Drawn0.refl _ | apply Drawn0.step)⟩
      case round =>
        obtain ⟨j, i2, rfl, rfl, HJ, ⟨nj, rfl⟩⟩ := hrel
        have hjl : j < cs.length := by
          rcases Nat.lt_or_ge j cs.length with h | h
          · exact h
          · have h2 := HXX.out
            rw [← HJ.out, flat_skip, List.drop_of_length_le h] at h2
            cases h2
        obtain ⟨ad, vj, rfl, hcell, hKj⟩ := C_kid (C_drewN' HA'.out nj) j hjl
        have hsz := sizes_take_le cs j hjl
        have hsz2 := HRR.out
        have hi2 : i2 ≤ 1099511627776 := by have := HJ.out; omega
        have HKj := Aside0.mk hKj
        have HT := Aside0.mk (sizes_take cs j hjl)
        have HF := fun h => flat_at cs j i2 hjl h
        rw [HJ.out, HXX.out] at HF
        have HF := Aside0.mk HF
        have hs1 : size g cs[j] ≤ 1099511627776 := by omega
        clear hsz hsz2
        generalize cs[j] = tj at *
        by_cases hcmp : size g tj ≤ i2
        · have hsub : ((i2 : Int) - (size g tj : Nat)) = ((i2 - size g tj : Nat) : Int) := by omega
          have HSUB := Aside0.mk hsub
          have hdec : decide (size g tj ≤ i2) = true := decide_eq_true (by omega)
          have HJ2 : Aside0 (sizes (cs.take (j + 1)) + (i2 - size g tj) = i') := ⟨by rw [HT.out]; have := HJ.out; omega⟩
          clear hsub HF
          rcases count_any hKj with ⟨bt, rfl, hcnt⟩ | ⟨bt, rfl, hcnt⟩
          all_goals
            have HCN := Aside0.mk hcnt
            clear hcnt hKj
            go_wp2_with fail
            refine HCN.out.mono ?_
            rintro e w' ⟨rfl, rfl⟩
            go_wp2_with fail
            refine HCN.out.mono ?_
            rintro e w' ⟨rfl, rfl⟩
            go_wp2
            go_roundw
            case rel => exact ⟨j + 1, i2 - size g tj, by go_num, by rw [HSUB.out], HJ2, D_refl' _ _⟩
            case measure => simp [intOf]; omega
        · have hdec : decide (size g tj ≤ i2) = false := decide_eq_false (by omega)
          have HX2 : Aside0 ((toList g tj)[i2]? = some x) := ⟨(HF.out (by omega)).symm⟩
          clear HF
          rcases count_any hKj with ⟨bt, rfl, hcnt⟩ | ⟨bt, rfl, hcnt⟩
          all_goals
            have HCN := Aside0.mk hcnt
            clear hcnt hKj
            go_wp2_with fail
            refine HCN.out.mono ?_
            rintro e w' ⟨rfl, rfl⟩
            go_wp2
            go_roundg g
            case measure => omega
            case rel => exact ⟨tj, i2, rfl, HKj, HX2, ⟨hs1⟩, D_trans hD.out (D_refl' _ _)⟩

set_option maxRecDepth 100000 in
set_option maxHeartbeats 4000000 in
theorem at_no (d b : Nat) (t : T d) (v : Value) (i : Int) (w : World) (h1 : w.cell? ⟨b, 1, none⟩ = some v) (hK : (NK d).K w t [v]) (hB : size d t ≤ 1099511627776) (hi : i < 0 ∨ (size d t : Int) ≤ i) :
    Calls Try.prog 13 #[.pointer (some ⟨b, 0, none⟩), .int .i64 i] w fun e w' => e = .returned (.tuple #[.string ⟨#[]⟩, .int .i64 0, .bool false]) ∧ Drawn0 w w' := by
  have hlen := Aside0.mk (len_calls b d t v w h1 hK)
  clear hK
  by_cases hneg : i < 0
  · have hneg : decide (i < 0) = true := decide_eq_true hneg
    clear hi
    go_enter Try.func13, Try.ntmps13
    go_wp2
    go_ret3
    exact ⟨rfl, D_refl' _ 0⟩
  · have hge : decide (((size d t : Nat) : Int) ≤ (i : Int)) = true := decide_eq_true (by omega)
    have hneg : decide (i < 0) = false := decide_eq_false hneg
    clear hi
    go_enter Try.func13, Try.ntmps13
    go_wp2_with fail
    refine hlen.out.mono ?_
    rintro e w' ⟨rfl, rfl⟩
    go_wp2
    go_ret3
    exact ⟨rfl, D_refl' _ 0⟩

end Go.Proofs.Ytjabcdfbncglnaa
namespace Go.Proofs.Ytjabcdfbncglnaa
open Go.RowKit Go.Proofs.YtjabcdfbncglnaaW.PrintWords Go.Proofs.YtjabcdfbncglnaaW.PrintLast Go.Proofs.YtjabcdfbncglnaaW.PrintMore
open PTreeRanks (S59 k59 z59)
set_option linter.unusedVariables false
set_option linter.unusedSimpArgs false

def optV : Option S59 → Value
  | some x => .tuple #[.string x.f0, .int .i64 x.f1, .bool true]
  | none => .tuple #[.string ⟨#[]⟩, .int .i64 0, .bool false]

theorem at_calls (d b : Nat) (t : T d) (v : Value) (i : Int) (w : World) (h1 : w.cell? ⟨b, 1, none⟩ = some v) (hK : (NK d).K w t [v]) (hB : size d t ≤ 1099511627776) :
    Calls Try.prog 13 #[.pointer (some ⟨b, 0, none⟩), .int .i64 i] w fun e w' => e = .returned (optV (if i < 0 then none else (toList d t)[i.toNat]?)) ∧ Drawn0 w w' := by
  by_cases hi : i < 0
  · rw [if_pos hi]
    exact at_no d b t v i w h1 hK hB (.inl hi)
  · rw [if_neg hi]
    obtain ⟨n, rfl⟩ := Int.eq_ofNat_of_zero_le (Int.not_lt.1 hi)
    rw [Int.toNat_natCast]
    cases hx : (toList d t)[n]? with
    | none =>
      refine at_no d b t v n w h1 hK hB (.inr ?_)
      rw [size_eq]
      have := List.getElem?_eq_none_iff.1 hx
      omega
    | some x => exact at_yes d b t v n x w h1 hK hB hx

def hasT (d : Nat) (t : T d) (k : ByteArray) : Bool := has ((leafOf d t k).map S59.f0) k

set_option maxRecDepth 100000 in
set_option maxHeartbeats 4000000 in
theorem next_calls (d b : Nat) (t : T d) (v : Value) (k : ByteArray) (beyond : Bool) (w : World) (h1 : w.cell? ⟨b, 1, none⟩ = some v) (hK : (NK d).K w t [v]) (hS : Shape d t) (hB : size d t ≤ 1099511627776) :
    Calls Try.prog 16 #[.pointer (some ⟨b, 0, none⟩), .string k, .bool beyond] w fun e w' => e = .returned (optV (toList d t)[rankT d t k + if beyond && hasT d t k then 1 else 0]?) ∧ Drawn0 w w' := by
  have hr := Aside0.mk (rank_calls d b t v k w h1 hK hS hB)
  have hg : Aside0 (∀ n, Calls Try.prog 14 #[.pointer (some ⟨b, 0, none⟩), .string k] (w.drewN n) fun e w' => e = .returned (.tuple #[.int .i64 (getV (leafOf d t k) k), .bool (hasT d t k)]) ∧ Drawn0 (w.drewN n) w') :=
    ⟨fun n => get_calls b d t v k (w.drewN n) (by simpa using h1) (K_drewN hK n) hS⟩
  have ha : Aside0 (∀ n (i : Nat), Calls Try.prog 13 #[.pointer (some ⟨b, 0, none⟩), .int .i64 i] (w.drewN n) fun e w' => e = .returned (optV (toList d t)[i]?) ∧ Drawn0 (w.drewN n) w') :=
    ⟨fun n i => by
      have := at_calls d b t v i (w.drewN n) (by simpa using h1) (K_drewN hK n) hB
      rwa [if_neg (by omega), Int.toNat_natCast] at this⟩
  have hrl := rankT_le d t k
  clear hK hS h1
  generalize rankT d t k = r at *
  generalize getV (leafOf d t k) k = gv at *
  generalize hasT d t k = th at *
  have hO : ∀ o : Option S59, optV o = .tuple #[.string (o.getD ⟨⟨#[]⟩, 0⟩).f0, .int .i64 (o.getD ⟨⟨#[]⟩, 0⟩).f1, .bool o.isSome] := fun o => by cases o <;> rfl
  cases beyond
  · have ha1 := Aside0.mk (fun n => ha.out n r)
    simp only [hO] at ha1 ⊢
    simp only [Bool.false_and, Bool.false_eq_true, if_false, Nat.add_zero]
    generalize (toList d t)[r]? = o at *
    clear ha hO
    go_enter Try.func16, Try.ntmps16
    go_wp2_with fail
    refine hr.out.mono ?_
    rintro e w' ⟨rfl, ⟨n1, rfl⟩⟩
    go_wp2_with fail
    refine (ha1.out _).mono ?_
    rintro e w' ⟨rfl, ⟨n2, rfl⟩⟩
    go_wp2
    go_ret3
    exact ⟨rfl, by repeat (first | exact Drawn0.refl _ | apply Drawn0.step)⟩
  · cases th
    · have ha1 := Aside0.mk (fun n => ha.out n r)
      simp only [hO] at ha1 ⊢
      simp only [Bool.and_false, Bool.false_eq_true, if_false, Nat.add_zero]
      generalize (toList d t)[r]? = o at *
      clear ha hO
      go_enter Try.func16, Try.ntmps16
      go_wp2_with fail
      refine hr.out.mono ?_
      rintro e w' ⟨rfl, ⟨n1, rfl⟩⟩
      go_wp2_with fail
      refine (hg.out _).mono ?_
      rintro e w' ⟨rfl, ⟨n1, rfl⟩⟩
      go_wp2_with fail
      refine (ha1.out _).mono ?_
      rintro e w' ⟨rfl, ⟨n2, rfl⟩⟩
      go_wp2
      go_ret3
      exact ⟨rfl, by repeat (first | exact Drawn0.refl _ | apply Drawn0.step)⟩
    · have ha1 := Aside0.mk (fun n => ha.out n (r + 1))
      simp only [hO] at ha1 ⊢
      simp only [Bool.and_true, if_true]
      generalize (toList d t)[r + 1]? = o at *
      clear ha hO
      go_enter Try.func16, Try.ntmps16
      go_wp2_with fail
      refine hr.out.mono ?_
      rintro e w' ⟨rfl, ⟨n1, rfl⟩⟩
      go_wp2_with fail
      refine (hg.out _).mono ?_
      rintro e w' ⟨rfl, ⟨n1, rfl⟩⟩
      go_wp2_with fail
      refine (ha1.out _).mono ?_
      rintro e w' ⟨rfl, ⟨n2, rfl⟩⟩
      go_wp2
      go_ret3
      exact ⟨rfl, by repeat (first | exact Drawn0.refl _ | apply Drawn0.step)⟩

end Go.Proofs.Ytjabcdfbncglnaa
namespace Go.Proofs.Ytjabcdfbncglnaa
open Go.RowKit Go.Proofs.YtjabcdfbncglnaaW.PrintWords Go.Proofs.YtjabcdfbncglnaaW.PrintLast Go.Proofs.YtjabcdfbncglnaaW.PrintMore
open PTreeRanks (S59 k59 z59)
set_option linter.unusedVariables false
set_option linter.unusedSimpArgs false

/-- The strings of a tree's nodes are no longer than B. -/
def KeysLe (B : Nat) : (d : Nat) → T d → Prop
  | 0, l => ∀ x ∈ (show List S59 from l), x.f0.size ≤ B
  | d + 1, t => (∀ k ∈ t.1, k.size ≤ B) ∧ ∀ c ∈ t.2, KeysLe B d c

def KeysS (B : Nat) (d : Nat) (s : T d × Option (ByteArray × T d)) : Prop := KeysLe B d s.1 ∧ ∀ m r, s.2 = some (m, r) → m.size ≤ B ∧ KeysLe B d r

theorem KeysLe_zero {B : Nat} {l : List S59} : KeysLe B 0 l ↔ ∀ x ∈ l, x.f0.size ≤ B := Iff.rfl
theorem KeysLe_succ {B d : Nat} {ks : List ByteArray} {cs : List (T d)} : KeysLe B (d + 1) ((ks, cs) : List ByteArray × List (T d)) ↔ (∀ k ∈ ks, k.size ≤ B) ∧ ∀ c ∈ cs, KeysLe B d c := Iff.rfl

theorem getD_size {B : Nat} {ks : List ByteArray} (h : ∀ k ∈ ks, k.size ≤ B) (i : Nat) : (ks.getD i ByteArray.empty).size ≤ B := by
  rw [List.getD_eq_getElem?_getD]
  cases e : ks[i]? with
  | none => exact Nat.zero_le _
  | some k => exact h k (List.mem_of_getElem? e)
theorem getD_size59 {B : Nat} {l : List S59} (h : ∀ x ∈ l, x.f0.size ≤ B) (i : Nat) : (l.getD i z59).f0.size ≤ B := by
  rw [List.getD_eq_getElem?_getD]
  cases e : l[i]? with
  | none => exact Nat.zero_le _
  | some k => exact h k (List.mem_of_getElem? e)

theorem halveT_keys {B d order : Nat} {ks : List ByteArray} {cs : List (T d)} (h1 : ∀ k ∈ ks, k.size ≤ B) (h2 : ∀ c ∈ cs, KeysLe B d c) : KeysS B (d + 1) (halveT order ks cs) := by
  unfold halveT
  split
  · exact ⟨⟨h1, h2⟩, fun m r e => by cases e⟩
  · refine ⟨⟨fun k hk => h1 k (List.mem_of_mem_take hk), fun c hc => h2 c (List.mem_of_mem_take hc)⟩, ?_⟩
    intro m r e
    cases e
    exact ⟨getD_size h1 _, fun k hk => h1 k (List.mem_of_mem_drop hk), fun c hc => h2 c (List.mem_of_mem_drop hc)⟩
theorem halveLeafT_keys {B order : Nat} {l : List S59} (h : ∀ x ∈ l, x.f0.size ≤ B) : KeysS B 0 (halveLeafT order l) := by
  unfold halveLeafT
  split
  · exact ⟨h, fun m r e => by cases e⟩
  · refine ⟨fun x hx => h x (List.mem_of_mem_take hx), ?_⟩
    intro m r e
    cases e
    exact ⟨getD_size59 h _, fun x hx => h x (List.mem_of_mem_drop hx)⟩
theorem mem_mid {α : Type} {l : List α} {i j : Nat} {a x : α} (h : x ∈ l.take i ++ a :: l.drop j) : x = a ∨ x ∈ l := by
  rcases List.mem_append.1 h with h | h
  · exact .inr (List.mem_of_mem_take h)
  · rcases List.mem_cons.1 h with h | h
    · exact .inl h
    · exact .inr (List.mem_of_mem_drop h)
theorem putT_keys {B order : Nat} {k : ByteArray} (x : Int) (hk : k.size ≤ B) : ∀ (d : Nat) (t : T d), KeysLe B d t → KeysS B d (putT order d t k x)
  | 0, l, h => by
    obtain ⟨l, rfl⟩ : ∃ l' : List S59, l' = l := ⟨l, rfl⟩
    have h : ∀ x ∈ l, x.f0.size ≤ B := h
    show KeysS B 0 (putLeaf order l k x)
    unfold putLeaf
    split
    · refine ⟨?_, fun m r e => by cases e⟩
      intro y hy
      rcases List.mem_or_eq_of_mem_set hy with hy | rfl
      · exact h y hy
      · exact hk
    · refine halveLeafT_keys fun y hy => ?_
      rcases mem_mid hy with rfl | hy
      · exact hk
      · exact h y hy
  | d + 1, t, h => by
    obtain ⟨ks, cs, rfl⟩ : ∃ (ks : List ByteArray) (cs : List (T d)), ((ks, cs) : List ByteArray × List (T d)) = t := ⟨t.1, t.2, rfl⟩
    obtain ⟨h1, h2⟩ := KeysLe_succ.1 h
    show KeysS B (d + 1) (match cs[kidIx ks k]? with | none => (((ks, cs) : List ByteArray × List (T d)), none) | some c => putUp order ks cs (kidIx ks k) (putT order d c k x))
    cases e : cs[kidIx ks k]? with
    | none => exact ⟨h, fun m r e => by cases e⟩
    | some c =>
      have ih := putT_keys (order := order) x hk d c (h2 c (List.mem_of_getElem? e))
      show KeysS B (d + 1) (putUp order ks cs (kidIx ks k) (putT order d c k x))
      generalize putT order d c k x = s at *
      obtain ⟨l, o⟩ := s
      have hset : ∀ c' ∈ cs.set (kidIx ks k) l, KeysLe B d c' := by
        intro c' hc'
        rcases List.mem_or_eq_of_mem_set hc' with hc' | rfl
        · exact h2 c' hc'
        · exact ih.1
      cases o with
      | none => exact ⟨⟨h1, hset⟩, fun m r e => by cases e⟩
      | some mr =>
        obtain ⟨m, r⟩ := mr
        obtain ⟨hm, hr⟩ := ih.2 m r rfl
        refine halveT_keys (fun y hy => ?_) (fun y hy => ?_)
        · rcases mem_mid hy with rfl | hy
          · exact hm
          · exact h1 y hy
        · rcases mem_mid hy with rfl | hy
          · exact hr
          · exact hset y hy
theorem putRoot_keys {B order : Nat} {k : ByteArray} (x : Int) (hk : k.size ≤ B) {t : AT} (h : KeysLe B t.1 t.2) : KeysLe B (putRoot order t k x).1 (putRoot order t k x).2 := by
  have h := putT_keys (order := order) x hk t.1 t.2 h
  unfold putRoot
  generalize putT order t.1 t.2 k x = s at *
  obtain ⟨l, o⟩ := s
  cases o with
  | none => exact h.1
  | some mr =>
    obtain ⟨m, r⟩ := mr
    obtain ⟨hm, hr⟩ := h.2 m r rfl
    refine ⟨fun y hy => by rw [List.mem_singleton.1 hy]; exact hm, fun y hy => ?_⟩
    rcases List.mem_cons.1 hy with rfl | hy
    · exact h.1
    · rw [List.mem_singleton.1 hy]; exact hr
end Go.Proofs.Ytjabcdfbncglnaa
namespace Go.Proofs.Ytjabcdfbncglnaa
open Go.RowKit Go.Proofs.YtjabcdfbncglnaaW.PrintWords Go.Proofs.YtjabcdfbncglnaaW.PrintLast Go.Proofs.YtjabcdfbncglnaaW.PrintMore
open PTreeRanks (S59 k59 z59)
set_option linter.unusedVariables false
set_option linter.unusedSimpArgs false

/-- The blocks of a tree's nodes. -/
def OwnB (base bt : Nat) : Nat → Prop := fun k => base ≤ k ∧ k ≠ bt

/-- A tree of an order in block bt, all of it from block base on, with these elements. -/
def TL (order : Nat) (l : List S59) (base bt : Nat) (w : World) : Prop :=
  3 ≤ order ∧ order ≤ 64 ∧ base ≤ bt ∧ ∃ t : AT, listA t = l ∧ WFA order t ∧ KeysLe 281474976710656 t.1 t.2 ∧ ∃ v, w.heap[bt]? = some (.cells #[.int .i64 order, v] 71 (0, 0)) ∧ (NK t.1).M w 0 (OwnB base bt) t.2 [v]

variable {order base bt : Nat} {l : List S59} {w w' : World}

theorem TL.lt (h : TL order l base bt w) : bt < w.heap.size := by
  obtain ⟨_, _, _, t, _, _, _, v, h1, _⟩ := h
  exact blk_lt h1
theorem TL.sorted (h : TL order l base bt w) : SortedK (keysOf l) := by
  obtain ⟨h1, _, _, t, rfl, h2, _⟩ := h
  exact listA_sorted h1 h2
theorem TL.step (h : TL order l base bt w) (hm : ∀ k, base ≤ k → k < w.heap.size → w'.heap[k]? = w.heap[k]?) : TL order l base bt w' := by
  obtain ⟨h1, h2, h3, t, e, h4, hkl, v, h5, h6⟩ := h
  exact ⟨h1, h2, h3, t, e, h4, hkl, v, (hm bt h3 (blk_lt h5)).trans h5, Kd.M_step h6 (fun k hk hlt => hm k hk.1 hlt)⟩
theorem TL.below (h : TL order l base bt w) (hb : Below w.heap.size w w') : TL order l base bt w' := h.step (fun k _ hlt => hb.block k hlt)
theorem TL.far (h : TL order l base bt w) {r : Nat} (hg : w.grownBy w' (some r)) (hr : r < base) : TL order l base bt w' :=
  h.step (fun k hk hlt => hg.block k hlt (fun e => by injection e with e; omega))
theorem TL.drewN (h : TL order l base bt w) (n : Nat) : TL order l base bt (w.drewN n) := h.below (pw_below_drewN (Below.refl _ _) n)

/-- What is needed of a tree to be asked. -/
theorem TL.reads (h : TL order l base bt w) : ∃ t : AT, listA t = l ∧ WFA order t ∧ Shape t.1 t.2 ∧ ∃ v, w.cell? ⟨bt, 1, none⟩ = some v ∧ (NK t.1).K w t.2 [v] := by
  obtain ⟨h1, h2, h3, t, e, h4, _, v, h5, h6⟩ := h
  exact ⟨t, e, h4, Shape_of_WF h1 h2 h4, v, (blk_cell h5 1).trans rfl, (NK t.1).K_of_M h6⟩

theorem TL_len (h : TL order l base bt w) : Calls Try.prog 12 #[.pointer (some ⟨bt, 0, none⟩)] w fun e w' => e = .returned (.int .i64 (l.length : Nat)) ∧ Drawn0 w w' := by
  obtain ⟨t, rfl, _, hS, v, h1, hK⟩ := h.reads
  have := len_calls bt t.1 t.2 v w h1 hK
  rw [← sizeA_eq t]
  refine this.mono ?_
  rintro e w' ⟨rfl, rfl⟩
  exact ⟨rfl, Drawn0.refl _⟩
theorem TL_at (h : TL order l base bt w) (hl : l.length ≤ 1099511627776) (i : Int) : Calls Try.prog 13 #[.pointer (some ⟨bt, 0, none⟩), .int .i64 i] w fun e w' => e = .returned (optV (if i < 0 then none else l[i.toNat]?)) ∧ Drawn0 w w' := by
  obtain ⟨t, rfl, _, hS, v, h1, hK⟩ := h.reads
  rw [← sizeA_eq t] at hl
  exact at_calls t.1 bt t.2 v i w h1 hK hl
theorem TL_get (h : TL order l base bt w) (k : ByteArray) : Calls Try.prog 14 #[.pointer (some ⟨bt, 0, none⟩), .string k] w fun e w' => e = .returned (.tuple #[.int .i64 (getV l k), .bool (has (keysOf l) k)]) ∧ Drawn0 w w' := by
  have h3 := h.1
  obtain ⟨t, rfl, hW, hS, v, h1, hK⟩ := h.reads
  rw [← get_A h3 hW, ← has_A h3 hW]
  exact get_calls bt t.1 t.2 v k w h1 hK hS
theorem TL_rank (h : TL order l base bt w) (hl : l.length ≤ 1099511627776) (k : ByteArray) : Calls Try.prog 15 #[.pointer (some ⟨bt, 0, none⟩), .string k] w fun e w' => e = .returned (.int .i64 (rank (keysOf l) k : Nat)) ∧ Drawn0 w w' := by
  have h3 := h.1
  obtain ⟨t, rfl, hW, hS, v, h1, hK⟩ := h.reads
  rw [← rank_A h3 hW]
  rw [← sizeA_eq t] at hl
  exact rank_calls t.1 bt t.2 v k w h1 hK hS hl
theorem TL_next (h : TL order l base bt w) (hl : l.length ≤ 1099511627776) (k : ByteArray) (beyond : Bool) : Calls Try.prog 16 #[.pointer (some ⟨bt, 0, none⟩), .string k, .bool beyond] w fun e w' => e = .returned (optV l[rank (keysOf l) k + if beyond && has (keysOf l) k then 1 else 0]?) ∧ Drawn0 w w' := by
  have h3 := h.1
  obtain ⟨t, rfl, hW, hS, v, h1, hK⟩ := h.reads
  rw [← rank_A h3 hW, ← has_A h3 hW]
  rw [← sizeA_eq t] at hl
  exact next_calls t.1 bt t.2 v k beyond w h1 hK hS hl

theorem TL_put (h : TL order l base bt w) (k : ByteArray) (hk : k.size ≤ 281474976710656) (hl : l.length < 1099511627776) (hw : base ≤ w.heap.size) (x : Int) : Calls Try.prog 25 #[.pointer (some ⟨bt, 0, none⟩), .string k, .int .i64 x] w fun e w' =>
    e = .returned (.tuple #[.bool (!has (keysOf l) k), .int .i64 0]) ∧ w.grownBy w' (some bt) ∧ TL order (insL l k x) base bt w' := by
  have hlt := h.lt
  obtain ⟨h1, h2, h3, t, rfl, h4, hkl, v, h5, h6⟩ := h
  have hkl := putRoot_keys (order := order) x hk hkl
  have hp := putRoot_WF h1 h4 k x
  have hT : TreeIn order t bt (OwnB base bt) w := ⟨v, h5, h6, Shape_of_WF h1 h2 h4, by rw [sizeA_eq]; exact hl⟩
  refine (Put_calls k x h1 (by omega) hT (fun k hk => ⟨by omega, by omega⟩) (fun hk => hk.2 rfl)).mono ?_
  rintro e w' ⟨rfl, hg, v', h7, h8⟩
  refine ⟨?_, hg, h1, h2, h3, _, hp.2, hp.1, hkl, v', h7, h8⟩
  rw [sizeA_eq, sizeA_eq, hp.2, insL_length]
  cases has (keysOf (listA t)) k <;> simp

set_option maxRecDepth 100000 in
set_option maxHeartbeats 4000000 in
theorem new_calls (order : Nat) (h3 : 3 ≤ order) (h4 : order ≤ 64) (w : World) : Calls Try.prog 30 #[.int .i64 (order : Nat)] w fun e w' =>
    e = .returned (.tuple #[.pointer (some ⟨w.heap.size + 1, 0, none⟩), .int .i64 0]) ∧ Below w.heap.size w w' ∧ TL order [] w.heap.size (w.heap.size + 1) w' := by
  have b1 : decide (((order : Nat) : Int) < 3) = false := decide_eq_false (by omega)
  have b2 : decide (((64 : Nat) : Int) < ((order : Nat) : Int)) = false := decide_eq_false (by omega)
  have b3 : decide ((64 : Int) < ((order : Nat) : Int)) = false := decide_eq_false (by omega)
  go_enter Try.func30, Try.ntmps30
  go_wp2
  go_ret2
  refine ⟨rfl, below_mk (below_mk (Below.refl _ _) _) _, h3, h4, Nat.le_succ _, ⟨0, ([] : List S59)⟩, rfl, WF_zero.2 ⟨List.Pairwise.nil, (fun x hx => by cases hx), by show 0 + 1 ≤ order; omega, Nat.le_refl _⟩, (fun x hx => by cases hx), .iface 82 (.pointer (some ⟨w.heap.size, 0, none⟩)), ?_, ?_⟩
  · have e : w.heap.size + 1 = (w.alloc (Obj.cells #[Value.slice none 0 0, Value.slice none 0 0] 85)).heap.size := by simp
    rw [e]
    exact heap_alloc_new _ _
  · have hh : ((w.alloc (Obj.cells #[Value.slice none 0 0, Value.slice none 0 0] 85)).alloc (Obj.cells #[Value.int IntKind.i64 (order : Nat), Value.iface 82 (Value.pointer (some { block := w.heap.size, off := 0 }))] 71)).heap[w.heap.size]? = some (.cells #[Value.slice none 0 0, Value.slice none 0 0] 85 (0, 0)) :=
      (Below.heap_alloc _ _ _ (by simp)).trans (heap_alloc_new w _)
    refine leaf_M.2 ⟨w.heap.size, _, _, rfl, ⟨Nat.le_refl _, by omega⟩, hh, ?_, ?_⟩
    · exact ⟨(fun k hk => by cases hk), OwnRow.none_ _ _ _ _ _⟩
    · exact ⟨(fun k hk => by cases hk), OwnRow.none_ _ _ _ _ _⟩
end Go.Proofs.Ytjabcdfbncglnaa
namespace Go.Proofs.Ytjabcdfbncglnaa
open Go.RowKit Go.Proofs.YtjabcdfbncglnaaW.PrintWords Go.Proofs.YtjabcdfbncglnaaW.PrintLast Go.Proofs.YtjabcdfbncglnaaW.PrintMore
open PTreeRanks (S59 k59 z59)
set_option linter.unusedVariables false
set_option linter.unusedSimpArgs false

theorem new_bad (n : Int) (h : n < 3 ∨ 64 < n) (w : World) : Calls Try.prog 30 #[.int .i64 n] w fun e w' =>
    e = .returned (.tuple #[.pointer none, .int .i64 1]) ∧ w = w' := by
  by_cases h1 : n < 3
  · have b1 : decide (n < 3) = true := decide_eq_true h1
    go_enter Try.func30, Try.ntmps30
    go_wp2
    go_ret2
    exact ⟨rfl, rfl⟩
  · have b1 : decide (n < 3) = false := decide_eq_false h1
    have b2 : decide (64 < n) = true := decide_eq_true (by omega)
    go_enter Try.func30, Try.ntmps30
    go_wp2
    go_ret2
    exact ⟨rfl, rfl⟩

theorem ins_b : insL [] ⟨#[98]⟩ 2 = [⟨⟨#[98]⟩, 2⟩] := rfl
theorem ins_a : insL [⟨⟨#[98]⟩, 2⟩] ⟨#[97]⟩ 1 = [⟨⟨#[97]⟩, 1⟩, ⟨⟨#[98]⟩, 2⟩] := by kernel_rfl

set_option maxRecDepth 100000 in
set_option maxHeartbeats 4000000 in
theorem live_calls (w : World) : Calls Try.prog 10 #[] w fun e w' => e = .returned (.bool true) ∧ Below w.heap.size w w' := by
  have HN := Aside0.mk (new_calls 3 (Nat.le_refl _) (by omega) w)
  go_enter Try.func10, Try.ntmps10
  go_wp2_with fail
  refine HN.out.mono ?_
  rintro e w1 ⟨rfl, hb1, hT1⟩
  have HP := Aside0.mk (TL_put hT1 ⟨#[98]⟩ (by decide) (by decide) (hb1.size) 2)
  rw [ins_b] at HP
  clear HN hT1
  go_wp2_with fail
  refine HP.out.mono ?_
  rintro e w2 ⟨rfl, hg2, hT2⟩
  have HP2 := Aside0.mk (TL_put hT2 ⟨#[97]⟩ (by decide) (by decide) (Nat.le_trans hb1.size hg2.size) 1)
  rw [ins_a] at HP2
  clear HP hT2
  go_wp2_with fail
  refine HP2.out.mono ?_
  rintro e w3 ⟨rfl, hg3, hT3⟩
  have HA := Aside0.mk (TL_at hT3 (by decide) 1)
  have e1 : optV (if (1 : Int) < 0 then none else [(⟨⟨#[97]⟩, 1⟩ : S59), ⟨⟨#[98]⟩, 2⟩][(1 : Int).toNat]?) = .tuple #[.string ⟨#[98]⟩, .int .i64 2, .bool true] := rfl
  rw [e1] at HA
  clear HP2 hT3
  go_wp2_with fail
  refine HA.out.mono ?_
  rintro e w4 ⟨rfl, ⟨n, rfl⟩⟩
  go_wp2
  go_ret
  refine ⟨rfl, ?_⟩
  have hg : w1.grownBy w3 (some (w.heap.size + 1)) := grownBy_trans hg2 hg3
  have hb3 : Below w.heap.size w1 w3 := grownBy_below hg hb1.size (fun k e => by injection e with e; omega)
  exact pw_below_drewN (hb1.trans hb3) n
end Go.Proofs.Ytjabcdfbncglnaa
namespace Go.Proofs.Ytjabcdfbncglnaa
open Go.RowKit Go.Proofs.YtjabcdfbncglnaaW.PrintWords Go.Proofs.YtjabcdfbncglnaaW.PrintLast Go.Proofs.YtjabcdfbncglnaaW.PrintMore
open PTreeRanks (S59 k59 z59)
set_option linter.unusedVariables false
set_option linter.unusedSimpArgs false

/-- The elements after keys were put, numbered from i on. -/
def fillL : List ByteArray → Nat → List S59 → List S59
  | [], _, l => l
  | k :: ks, i, l => fillL ks (i + 1) (insL l k i)

/-- A tree and its list in the struct at block s. -/
def OneAt (order : Nat) (l : List S59) (s bt : Nat) (lv : Value) (W : World) : Prop :=
  W.heap[s]? = some (.cells #[.pointer (some ⟨bt, 0, none⟩), lv] 27 (0, 0)) ∧ TL order l (s + 1) bt W ∧ k59.R 59 W 0 (fun k => k ≠ s ∧ k ≠ bt ∧ k + 1 ≠ s) lv l

def FillInv (order : Nat) (ks : List ByteArray) (w : World) (i : Nat) (W : World) : Prop :=
  ∃ l lv, fillL (ks.drop i) i l = fillL ks 0 [] ∧ l.length ≤ i ∧ OneAt order l (w.heap.size + 1) (w.heap.size + 3) lv W ∧ W.heap[w.heap.size]? = some (.cells #[.pointer none, .slice none 0 0] 27 (0, 0)) ∧ Below w.heap.size w W

/-- What filled answers. -/
def FillPost (order : Nat) (ks : List ByteArray) (w : World) (e : Ending) (W : World) : Prop :=
  ∃ lv, e = .returned (.agg #[.pointer (some ⟨w.heap.size + 3, 0, none⟩), lv]) ∧ TL order (fillL ks 0 []) (w.heap.size + 2) (w.heap.size + 3) W ∧ k59.R 59 W 0 (fun k => k ≠ w.heap.size + 1 ∧ k ≠ w.heap.size + 3 ∧ k + 1 ≠ w.heap.size + 1) lv (fillL ks 0 []) ∧ Below w.heap.size w W

set_option maxRecDepth 100000 in
set_option maxHeartbeats 4000000 in
theorem filled_calls (order : Nat) (h3 : 3 ≤ order) (h4 : order ≤ 64) (A : Option Addr) (c : Nat) (ks : List ByteArray) (w : World) (hC : Kd.C Kd.string w A ks.length ks) (hc : ks.length ≤ c) (hn : ks.length ≤ 2097152) (hz : ∀ k ∈ ks, k.size ≤ 281474976710656) :
    Calls Try.prog 11 #[.int .i64 (order : Nat), .slice A ks.length c] w (FillPost order ks w) := by
  have HC := Aside0.mk hC
  have HZ := Aside0.mk hz
  clear hz
  have HN := Aside0.mk (new_calls order h3 h4 ((w.alloc (.cells #[.pointer none, .slice none 0 0] 27)).alloc (.cells #[.pointer none, .slice none 0 0] 27)))
  clear hC
  have hu27 := Try.underlying27
  go_enter Try.func11, Try.ntmps11
  go_wp2_with fail
  refine HN.out.mono ?_
  rintro e w1 ⟨rfl, hb1, hT1⟩
  have es : ((w.alloc (.cells #[.pointer none, .slice none 0 0] 27)).alloc (.cells #[.pointer none, .slice none 0 0] 27)).heap.size = w.heap.size + 2 := by simp
  have hh1 : ((w.alloc (.cells #[.pointer none, .slice none 0 0] 27)).alloc (.cells #[.pointer none, .slice none 0 0] 27)).heap[w.heap.size + 1]? = some (.cells #[.pointer none, .slice none 0 0] 27 (0, 0)) := by
    have e : w.heap.size + 1 = (w.alloc (.cells #[.pointer none, .slice none 0 0] 27)).heap.size := by simp
    rw [e]
    exact heap_alloc_new _ _
  have hh0 : ((w.alloc (.cells #[.pointer none, .slice none 0 0] 27)).alloc (.cells #[.pointer none, .slice none 0 0] 27)).heap[w.heap.size]? = some (.cells #[.pointer none, .slice none 0 0] 27 (0, 0)) :=
    (Below.heap_alloc _ _ _ (by simp)).trans (heap_alloc_new w _)
  have hB0 : Below w.heap.size w ((w.alloc (.cells #[.pointer none, .slice none 0 0] 27)).alloc (.cells #[.pointer none, .slice none 0 0] 27)) := below_mk (below_mk (Below.refl _ _) _) _
  generalize (w.alloc (.cells #[.pointer none, .slice none 0 0] 27)).alloc (.cells #[.pointer none, .slice none 0 0] 27) = W0 at *
  rw [es] at hb1 hT1
  have hh1 := (hb1.block _ (by omega)).trans hh1
  have hh0 := (hb1.block _ (by omega)).trans hh0
  have hB1 := below_go (by rw [es]; exact hb1) hB0
  have y0 : w1.cell? ⟨w.heap.size + 1, 0, none⟩ = some (.pointer none) := (blk_cell hh1 0).trans rfl
  have y1 : w1.cell? ⟨w.heap.size + 1, 1, none⟩ = some (.slice none 0 0) := (blk_cell hh1 1).trans rfl
  have yf0 : w1.frozen? ⟨w.heap.size + 1, 0, none⟩ = false := blk_frozen hh1 0
  have yf1 : w1.frozen? ⟨w.heap.size + 1, 1, none⟩ = false := blk_frozen hh1 1
  have HI : Aside0 (FillInv order ks w 0 (w1.setCell ⟨w.heap.size + 1, 0, none⟩ (.pointer (some ⟨w.heap.size + 3, 0, none⟩)))) := by
    have hg : w1.grownBy (w1.setCell ⟨w.heap.size + 1, 0, none⟩ (.pointer (some ⟨w.heap.size + 3, 0, none⟩))) (some (w.heap.size + 1)) := gb_set (grownBy_refl _ _) _ _
    refine ⟨[], .slice none 0 0, rfl, Nat.le_refl _, ⟨(blk_set hh1 0 _).trans rfl, hT1.far hg (by omega), Kd.R_nil _ _ _ _ _⟩, (hg.block _ (by have := blk_lt hh0; omega) (by intro e; injection e with e; omega)).trans hh0, ?_⟩
    exact hB1.trans (grownBy_below hg hB1.size (fun k e => by injection e with e; omega))
  clear HN hT1 hb1 hh1 hh0 hB0 hB1
  go_wp2
  go_loopw [17] (fun v W => ∃ i : Nat, v = .int .i64 i ∧ i ≤ ks.length ∧ Aside0 (FillInv order ks w i W)) (fun v W => ks.length - (RowKit.intOf v).toNat)
  case atStart => exact ⟨0, rfl, Nat.zero_le _, HI⟩
  case round =>
    clear HI y0 y1 yf0 yf1 es
    obtain ⟨i, rfl, hi, ⟨l, lv, hf, hl, ⟨hh, hT, hR⟩, hh0, hB⟩⟩ := hrel
    have y0 : wr.cell? ⟨w.heap.size + 1, 0, none⟩ = some (.pointer (some ⟨w.heap.size + 3, 0, none⟩)) := (blk_cell hh 0).trans rfl
    have y1 : wr.cell? ⟨w.heap.size + 1, 1, none⟩ = some lv := (blk_cell hh 1).trans rfl
    by_cases hlt : i < ks.length
    · have b1 : decide (((i : Nat) : Int) < ((ks.length : Nat) : Int)) = true := decide_eq_true (by omega)
      have p0 : (0 : Int) ≤ ((i : Nat) : Int) := by omega
      have p1 : ((i : Nat) : Int) < ((ks.length : Nat) : Int) := by omega
      obtain ⟨ad, rfl, hcell⟩ := Kd.at_string (Kd.C_below HC.out hB) i p0 p1
      have hcell : wr.cell? (ad.add i) = some (.string ks[i]) := by
        rw [rdOf_eq _ _ hlt] at hcell
        exact hcell
      replace p0 := eq_true p0
      replace p1 := eq_true p1
      have HP := Aside0.mk (TL_put hT ks[i] (HZ.out _ (List.getElem_mem hlt)) (by omega) (by have := blk_lt hh; omega) i)
      have HT := Aside0.mk hT
      have HR := Aside0.mk hR
      have HB := Aside0.mk hB
      have HH := Aside0.mk hh
      have HH0 := Aside0.mk hh0
      have HF := Aside0.mk hf
      have hdrop : ks.drop i = ks[i] :: ks.drop (i + 1) := List.drop_eq_getElem_cons hlt
      generalize ks[i] = k at *
      clear hT hR hB hh hh0 hf
      go_wp2_with fail
      refine HP.out.mono ?_
      rintro e w2 ⟨rfl, hg2, hT2⟩
      have hh2 := (hg2.block _ (blk_lt HH.out) (by intro e; injection e with e; omega)).trans HH.out
      have hh20 := (hg2.block _ (blk_lt HH0.out) (by intro e; injection e with e; omega)).trans HH0.out
      have hR2 := Kd.R_grown HR.out hg2 (fun k hk e => by injection e with e; exact hk.2.1 e)
      obtain ⟨A2, c2, rfl, hc2, hC2⟩ := Kd.R_reads hR2
      have y2 : w2.cell? ⟨w.heap.size + 1, 1, none⟩ = some (.slice A2 l.length c2) := (blk_cell hh2 1).trans rfl
      have HPR := Aside0.mk (PTreeRanks.keystoneref05_Put.calls (l.length + 1) A2 c2 l k i _ w2 hC2 hc2 (refPut k i HT.out.sorted (by omega)))
      have hl2 := insL_length l k i
      have hB2 : Below w.heap.size w w2 := HB.out.trans (grownBy_below hg2 HB.out.size (fun k e => by injection e with e; omega))
      have HT2 := Aside0.mk hT2
      have HH2 := Aside0.mk hh2
      have HH20 := Aside0.mk hh20
      have HB2 := Aside0.mk hB2
      clear HP hT2 hh2 hh20 hB2 hR2 hC2
      go_wp2_with fail
      refine HPR.out.mono ?_
      rintro e w3 ⟨v3, rfl, hR3, hB3⟩
      obtain ⟨A3, c3, ev3, _, _⟩ := Kd.R_reads hR3
      have hlt2 := blk_lt HH2.out
      have hltT := HT2.out.lt
      have hh3 := (hB3.block _ hlt2).trans HH2.out
      have z1 : w3.cell? ⟨w.heap.size + 1, 1, none⟩ = some (.slice A2 l.length c2) := (blk_cell hh3 1).trans rfl
      have zf : w3.frozen? ⟨w.heap.size + 1, 1, none⟩ = false := blk_frozen hh3 1
      have hh30 := (hB3.block _ (blk_lt HH20.out)).trans HH20.out
      have hT3 := HT2.out.below hB3
      have hg4 : w3.grownBy (w3.setCell ⟨w.heap.size + 1, 1, none⟩ v3) (some (w.heap.size + 1)) := gb_set (grownBy_refl _ _) _ _
      have hB03 : Below w.heap.size w w3 := HB2.out.trans (hB3.mono HB2.out.size)
      have HI : Aside0 (FillInv order ks w (i + 1) (w3.setCell ⟨w.heap.size + 1, 1, none⟩ v3)) := by
        refine ⟨insL l k i, v3, ?_, ?_, ⟨(blk_set hh3 1 _).trans rfl, hT3.far hg4 (by omega), ?_⟩, (hg4.block _ (blk_lt hh30) (by intro e; injection e with e; omega)).trans hh30, hB03.trans (grownBy_below hg4 hB03.size (fun k e => by injection e with e; omega))⟩
        · have := HF.out
          rw [hdrop] at this
          exact this
        · rw [hl2]
          split <;> omega
        · have h1 := Kd.R_mono (ok' := fun k => k ≠ w.heap.size + 1 ∧ k ≠ w.heap.size + 3 ∧ k + 1 ≠ w.heap.size + 1) (Kd.R_bound hR3) (fun k hk => ⟨by omega, by omega, by omega⟩)
          exact Kd.R_grown (Kd.R_lower h1 (Nat.zero_le _)) hg4 (fun k hk e => by injection e with e; exact hk.1 e)
      clear HPR HH2 HH20 HB2 HT2 hR3 hB3 hh3 hh30 hT3 hg4 hB03
      clear hl2
      subst ev3
      go_wp2
      go_roundw
      case measure => show ks.length - (i + 1) < ks.length - i; omega
      case rel => exact ⟨i + 1, by first | rfl | (simp; done) | (congr 1), by omega, HI⟩
    · have b1 : decide (((i : Nat) : Int) < ((ks.length : Nat) : Int)) = false := decide_eq_false (by omega)
      obtain rfl : i = ks.length := by omega
      rw [List.drop_length] at hf
      have hf : l = fillL ks 0 [] := hf
      subst hf
      obtain ⟨A3, c3, ev3, _, _⟩ := Kd.R_reads hR
      subst ev3
      have z0 : wr.cell? ⟨w.heap.size, 0, none⟩ = some (.pointer none) := (blk_cell hh0 0).trans rfl
      have z1 : wr.cell? ⟨w.heap.size, 1, none⟩ = some (.slice none 0 0) := (blk_cell hh0 1).trans rfl
      have zf0 : wr.frozen? ⟨w.heap.size, 0, none⟩ = false := blk_frozen hh0 0
      have zf1 : wr.frozen? ⟨w.heap.size, 1, none⟩ = false := blk_frozen hh0 1
      have HT := Aside0.mk hT
      have HR := Aside0.mk hR
      have HB := Aside0.mk hB
      clear hT hR hB
      go_wp2
      have hlt0 := blk_lt hh0
      have hg : wr.grownBy ((wr.setCell ⟨w.heap.size, 0, none⟩ (.pointer (some ⟨w.heap.size + 3, 0, none⟩))).setCell ⟨w.heap.size, 1, none⟩ (.slice A3 (fillL ks 0 []).length c3)) (some w.heap.size) := gb_set (gb_set (grownBy_refl _ _) _ _) _ _
      refine bodyPost_ret (v := .agg #[.pointer (some ⟨w.heap.size + 3, 0, none⟩), .slice A3 (fillL ks 0 []).length c3]) (by simp [results, Try.results11, go_sem, z0, z1, zf0, zf1, sizes]) rfl ?_
      refine ⟨_, rfl, HT.out.far hg (by omega), Kd.R_grown HR.out hg (fun k hk e => by injection e with e; omega), HB.out.trans (grownBy_below hg HB.out.size (fun k e => by injection e with e; omega))⟩
theorem fillL_length : ∀ (ks : List ByteArray) (i : Nat) (l : List S59), (fillL ks i l).length ≤ l.length + ks.length
  | [], _, l => Nat.le_refl _
  | k :: ks, i, l => by
    have h := fillL_length ks (i + 1) (insL l k i)
    have h2 := insL_length l k i
    rw [List.length_cons]
    show (fillL ks (i + 1) (insL l k i)).length ≤ _
    split at h2 <;> omega

end Go.Proofs.Ytjabcdfbncglnaa
namespace Go.Proofs.Ytjabcdfbncglnaa
open Go.RowKit Go.Proofs.YtjabcdfbncglnaaW.PrintWords Go.Proofs.YtjabcdfbncglnaaW.PrintLast Go.Proofs.YtjabcdfbncglnaaW.PrintMore
open PTreeRanks (S59 k59 z59)
set_option linter.unusedVariables false
set_option linter.unusedSimpArgs false

set_option maxHeartbeats 4000000 in
set_option maxRecDepth 100000 in
theorem lite_clone (s : ByteArray) (w : World) (hlim : s.size ≤ 281474976710656) :
    Calls Try.prog 69 #[.string s] w fun e w' => e = .returned (.string s) ∧ Below w.heap.size w w' := by
  by_cases h0 : s.size = 0
  · have hs : s = ⟨#[]⟩ := by
      apply ByteArray.ext
      exact Array.eq_empty_of_size_eq_zero h0
    subst hs
    go_enter Try.func69, Try.ntmps69
    go_wp2
    go_ret
    exact ⟨rfl, Below.refl _ _⟩
  · obtain ⟨i0, hi, hz0, hz1, hz2⟩ : ∃ i0, Try.prog.info? 5 = some i0 ∧ i0.zero = some (.int .u8 0) ∧ i0.size = 1 ∧ i0.bytes = 1 := by
      have h : (Try.prog.info? 5).map (fun i => (i.zero, i.size, i.bytes)) = some (some (.int .u8 0), 1, 1) := by kernel_rfl
      obtain ⟨i0, e1, e2⟩ := Option.map_eq_some_iff.1 h
      injection e2 with a b
      injection b with b c
      exact ⟨i0, e1, a, b, c⟩
    have hinfo : (Try.prog.info? 5).map (·.size) = some 1 := by rw [hi]; simp [hz1]
    have hco : Try.prog.cellsOf 5 = 1 := by simp [Program.cellsOf, hi, hz1]
    obtain ⟨M, hM⟩ : ∃ M, M = madeCells (Value.int .u8 0).cells (((s.size : Nat) : Int).toNat * i0.size) := ⟨_, rfl⟩
    have hMs : M.size = s.size := by rw [hM, size_madeCells, hz1]; simp
    have hmk : ∀ W : World, (Instr.makeSlice 139 (.int .i64 (s.size : Int)) (.int .i64 (s.size : Int))).run Try.prog W = .ok (.slice (some ⟨W.heap.size, 0, none⟩) s.size s.size) (W.alloc (.cells M 5)) := fun W => by
      have h := run_make (P := Try.prog) W 139 5 i0 (.int .u8 0) Try.underlying139 hi hz0 .i64 .i64 (s.size : Int) (s.size : Int) (by omega) (by omega) (by rw [hz2]; omega) (by omega)
      rw [← hM] at h
      simpa using h
    clear hM
    have hcp := Lib.run_copy_row_string (P := Try.prog) (w.alloc (.cells M 5)) 139 9 3 5 w.heap.size 0 s.size s.size s M 5 Try.underlying139 hinfo (heap_alloc_new w _) (Nat.le_refl _) (by omega)
    obtain ⟨Y, hY⟩ : ∃ Y, Y = (M.toList.take 0 ++ Lib.byteCells s.data.toList ++ M.toList.drop (0 + s.size)).toArray := ⟨_, rfl⟩
    rw [← hY] at hcp
    have hYl : Y.toList = Lib.byteCells s.data.toList := by
      rw [hY, List.toList_toArray, List.take_zero, List.nil_append, List.drop_of_length_le (by rw [Array.length_toList]; omega), List.append_nil]
    have hYs : Y.size = s.size := by rw [← Array.length_toList, hYl, Lib.byteCells_length, ← Lib.size_eq]
    have hgY : ((w.alloc (.cells M 5)).setRow w.heap.size Y).heap[w.heap.size]? = some (.cells Y 5 (0, 0)) := setRow_heap _ _ M _ 5 (0, 0) (heap_alloc_new w _)
    have hne : s.data.toList ≠ [] := fun e => h0 (by rw [Lib.size_eq, e]; rfl)
    have hUS := Lib.run_unsafeString_row (P := Try.prog) ((w.alloc (.cells M 5)).setRow w.heap.size Y) 140 3 9 5 Try.underlying140 hco w.heap.size Y.size (by unfold World.shape?; rw [hgY]) s.data.toList hne (by rw [← Lib.size_eq]; omega) (by rw [← Lib.size_eq]; omega)
      (fun j x hx => Lib.cells_of_row hgY Y.size j _ (by rw [List.take_of_length_le (by rw [Array.length_toList]; exact Nat.le_refl _), hYl]; simp [Lib.byteCells, hx]))
    rw [← Lib.size_eq] at hUS
    clear hY
    go_enter Try.func69, Try.ntmps69
    go_wp2
    go_ret
    have hb1 : Below w.heap.size w (w.alloc (.cells M 5)) := (Below.refl _ w).alloc (Nat.le_refl _) _
    have hb2 : Below w.heap.size (w.alloc (.cells M 5)) ((w.alloc (.cells M 5)).setRow w.heap.size Y) := ⟨rfl, rfl, rfl, by simp, fun k hk => setRow_other _ _ _ _ (by omega)⟩
    exact ⟨rfl, Lib.below_freeze (hb1.trans hb2) (p := ⟨w.heap.size, 0, none⟩) (Nat.le_refl _) _⟩

theorem str_clone (s : ByteArray) (w : World) (hlim : s.size ≤ 281474976710656) :
    Calls Try.prog 53 #[.string s] w fun e w' => e = .returned (.string s) ∧ Below w.heap.size w w' := by
  have H := Aside0.mk (lite_clone s w hlim)
  go_enter Try.func53, Try.ntmps53
  go_wp2_with fail
  refine H.out.mono ?_
  rintro e w' ⟨rfl, hb⟩
  go_wp2
  go_ret
  exact ⟨rfl, hb⟩
end Go.Proofs.Ytjabcdfbncglnaa
namespace Go.Proofs.Ytjabcdfbncglnaa
open Go.RowKit Go.Proofs.YtjabcdfbncglnaaW.PrintWords Go.Proofs.YtjabcdfbncglnaaW.PrintLast Go.Proofs.YtjabcdfbncglnaaW.PrintMore
open PTreeRanks (S59 k59 z59)
set_option linter.unusedVariables false
set_option linter.unusedSimpArgs false

theorem info9 : (Try.prog.info? 9).map (fun i => (i.zero, i.size, i.bytes)) = some (some (.string ⟨#[]⟩), 1, 16) := by kernel_rfl

set_option maxHeartbeats 4000000 in
set_option maxRecDepth 100000 in
theorem cloned_calls (A : Option Addr) (c : Nat) (ks : List ByteArray) (w : World) (hC : Kd.C Kd.string w A ks.length ks) (hc : ks.length ≤ c) (hn : ks.length ≤ 1099511627776) (hz : ∀ k ∈ ks, k.size ≤ 281474976710656) :
    Calls Try.prog 36 #[.slice A ks.length c] w fun e w' => ∃ v, e = .returned v ∧ Kd.string.R 9 w' w.heap.size (fun _ => True) v ks ∧ Below w.heap.size w w' := by
  have HC := Aside0.mk hC
  clear hC
  go_enter Try.func36, Try.ntmps36
  go_wp2
  go_loopw [3, 8] (fun v3 v8 W => ∃ i : Nat, v8 = .int .i64 i ∧ i ≤ ks.length ∧ Aside0 (Kd.string.R 9 W w.heap.size (fun _ => True) v3 (ks.take i)) ∧ Aside0 (Below w.heap.size w W)) (fun _ v8 _ => ks.length - (RowKit.intOf v8).toNat)
  case atStart => exact ⟨0, rfl, Nat.zero_le _, ⟨Kd.R_nil _ _ _ _ _⟩, ⟨Below.refl _ _⟩⟩
  case round =>
    obtain ⟨i, rfl, hi, HR, HB⟩ := hrel
    by_cases hlt : i < ks.length
    · have b1 : decide (((i : Nat) : Int) < ((ks.length : Nat) : Int)) = true := decide_eq_true (by omega)
      have p0 : (0 : Int) ≤ ((i : Nat) : Int) := by omega
      have p1 : ((i : Nat) : Int) < ((ks.length : Nat) : Int) := by omega
      obtain ⟨ad, rfl, hcell⟩ := Kd.at_string (Kd.C_below HC.out HB.out) i p0 p1
      have hcell : wr.cell? (ad.add i) = some (.string ks[i]) := by
        rw [rdOf_eq _ _ hlt] at hcell
        exact hcell
      have HK := Aside0.mk (str_clone ks[i] wr (hz _ (List.getElem_mem _)))
      have HT : Aside0 (ks.take (i + 1) = ks.take i ++ [ks[i]]) := ⟨List.take_succ_eq_append_getElem hlt⟩
      replace p0 := eq_true p0
      replace p1 := eq_true p1
      have HN : Aside0 ((ks.take i).length ≤ 1099511627776) := ⟨by rw [List.length_take]; omega⟩
      clear hz
      generalize ks[i] = k at *
      go_wp2_with fail
      refine HK.out.mono ?_
      rintro e w2 ⟨rfl, hb2⟩
      have HB2 := Aside0.mk (below_go (W0 := w) hb2 (w1 := wr) (by exact HB.out))
      have HR2 := Aside0.mk (Kd.R_below HR.out hb2)
      clear HK HB HR
      go_wp2_with ((with_reducible refine gate_builtin (b := .append) (xs := #[.tmp 12, .tmp 15]) rfl ?_); at_builtin; refine Kd.R_append Kd.string (w0 := w) w.heap.size rfl (.tmp 12) (.tmp 15) 22 9 (.string ⟨#[]⟩) 16 rfl Try.underlying22 info9 rfl (by decide) (by omega) u3 (ks.take i) k [.string k] (fun _ => True) (fun _ => False) rfl rfl ?aP (fun _ hk => hk.elim) ?aF ?aO ?aB ?aS ?aL ?_; (case aP => rfl); (case aF => exact fun _ _ => trivial); (case aO => exact HR2.out); (case aB => exact HB2.out); (case aS => exact HB2.out.size); (case aL => have := HN.out; omega); intro v1 w3 ho hb hg hat; have HO := Aside0.mk ho; have HB3 := Aside0.mk hb; clear ho hb hg hat)
      go_roundw
      case measure => show ks.length - (i + 1) < ks.length - i; omega
      case rel => exact ⟨i + 1, by first | rfl | (simp; done) | (congr 1), by omega, ⟨by rw [HT.out]; exact HO.out⟩, HB3⟩
    · have b1 : decide (((i : Nat) : Int) < ((ks.length : Nat) : Int)) = false := decide_eq_false (by omega)
      obtain rfl : i = ks.length := by omega
      rw [List.take_length] at HR
      go_wp2
      go_ret
      exact ⟨_, rfl, HR.out, HB.out⟩
end Go.Proofs.Ytjabcdfbncglnaa
