/- WHAT IS PROVED: drop out of an inner node, and so out of a node of any depth. the document's Rank, Has and Put of a rising list are rank, has and the insertion. At answers the element with a number of the flat list. Next answers the element of the flat list at a rank. New, Put, At, Rank, Get, Next and Len of a tree are what the document says of its flat list. Delete of a tree leaves the tree that deleteRoot tells; TL_delete. Delete of a tree that holds a list takes the key out of the list. -/
import Derived.Test.YtjabcdfbncglnaaLB9
import Derived.LaidEql
import Derived.Test.YtjabcdfbncglnaaLB4
import Derived.Test.YtjabcdfbncglnaaLB0
namespace Go.Proofs.Ytjabcdfbncglnaa
open Go.RowKit Go.Proofs.YtjabcdfbncglnaaW.PrintWords Go.Proofs.YtjabcdfbncglnaaW.PrintLast Go.Proofs.YtjabcdfbncglnaaW.PrintMore
open PTreeRanks (S59 k59 z59)
set_option linter.unusedVariables false
set_option linter.unusedSimpArgs false

theorem dropT_inner (order : Nat) {d : Nat} {ks : List ByteArray} {cs : List (T d)} (k : ByteArray) (h : kidIx ks k < cs.length) :
    dropT order (d + 1) ((ks, cs) : List ByteArray × List (T d)) k = (dropT order d cs[kidIx ks k] k).elim none (fun c' => some (if fewT order d c' then mendT order ks (cs.set (kidIx ks k) c') (max (kidIx ks k) 1 - 1) else (ks, cs.set (kidIx ks k) c'))) := by
  show (match cs[kidIx ks k]? with
      | none => none
      | some c => match dropT order d c k with
        | none => none
        | some c' => some (if fewT order d c' then mendT order ks (cs.set (kidIx ks k) c') (max (kidIx ks k) 1 - 1) else (ks, cs.set (kidIx ks k) c'))) = _
  rw [List.getElem?_eq_getElem h]
  show (match dropT order d cs[kidIx ks k] k with
        | none => none
        | some c' => some (if fewT order d c' then mendT order ks (cs.set (kidIx ks k) c') (max (kidIx ks k) 1 - 1) else (ks, cs.set (kidIx ks k) c'))) = _
  cases dropT order d cs[kidIx ks k] k <;> rfl

theorem NK_lt {d : Nat} {t : T d} {w : World} {ok : Nat → Prop} {ty b : Nat} (h : (NK d).M w 0 ok t [.iface ty (.pointer (some ⟨b, 0, none⟩))]) : b < w.heap.size := by
  cases d with
  | zero =>
    obtain ⟨b', kv, vv, e, _, hh, _⟩ := leaf_M.1 h
    cases e
    exact blk_lt hh
  | succ d =>
    obtain ⟨ks, cs⟩ := t
    obtain ⟨b', kv, cv, e, _, hh, _⟩ := inner_M.1 h
    cases e
    exact blk_lt hh

/-- A node by its type and its block. -/
theorem NK_form2 {d : Nat} {t : T d} {w : World} {ok : Nat → Prop} {ty b : Nat} (h : (NK d).M w 0 ok t [.iface ty (.pointer (some ⟨b, 0, none⟩))]) : (ty = 82 ∨ ty = 78) ∧ ∃ cs e, w.heap[b]? = some (.cells cs e (0, 0)) := by
  cases d with
  | zero =>
    obtain ⟨b', kv, vv, e, _, hh, _⟩ := leaf_M.1 h
    cases e
    exact ⟨.inl rfl, _, _, hh⟩
  | succ d =>
    obtain ⟨ks, cs⟩ := t
    obtain ⟨b', kv, cv, e, _, hh, _⟩ := inner_M.1 h
    cases e
    exact ⟨.inr rfl, _, _, hh⟩

theorem eql_82_78 (a b : Addr) (w : World) : (binOp .eql 69 (.iface 82 (.pointer (some a))) (.iface 78 (.pointer (some b)))).run Try.prog w = .ok (.bool false) w := by kernel_rfl
theorem eql_78_82 (a b : Addr) (w : World) : (binOp .eql 69 (.iface 78 (.pointer (some a))) (.iface 82 (.pointer (some b)))).run Try.prog w = .ok (.bool false) w := by kernel_rfl
set_option maxRecDepth 100000 in
theorem und69 : ∃ ms, Try.prog.underlying 69 = some (.interface ms) := by
  have h : (Try.prog.underlying 69).map (fun u => match u with | .interface _ => true | _ => false) = some true := by kernel_rfl
  obtain ⟨u, h1, h2⟩ := Option.map_eq_some_iff.1 h
  rw [h1]
  cases u <;> first | exact ⟨_, rfl⟩ | cases h2
theorem und82 : Try.prog.underlying 82 = some (.pointer 85) := by kernel_rfl
theorem und78 : Try.prog.underlying 78 = some (.pointer 81) := by kernel_rfl
theorem info82 : ∃ i, Try.prog.info? 82 = some i ∧ i.comparable = true := by
  have h : (Try.prog.info? 82).map (·.comparable) = some true := by kernel_rfl
  exact Option.map_eq_some_iff.1 h
theorem info78 : ∃ i, Try.prog.info? 78 = some i ∧ i.comparable = true := by
  have h : (Try.prog.info? 78).map (·.comparable) = some true := by kernel_rfl
  exact Option.map_eq_some_iff.1 h
theorem info85 : ∃ i, Try.prog.info? 85 = some i ∧ i.size ≠ 0 := by
  have h : (Try.prog.info? 85).map (fun i => decide (i.size = 0)) = some false := by kernel_rfl
  obtain ⟨i, h1, h2⟩ := Option.map_eq_some_iff.1 h
  exact ⟨i, h1, of_decide_eq_false h2⟩
theorem info81 : ∃ i, Try.prog.info? 81 = some i ∧ i.size ≠ 0 := by
  have h : (Try.prog.info? 81).map (fun i => decide (i.size = 0)) = some false := by kernel_rfl
  obtain ⟨i, h1, h2⟩ := Option.map_eq_some_iff.1 h
  exact ⟨i, h1, of_decide_eq_false h2⟩

theorem eql_same {ty : Nat} (h : ty = 82 ∨ ty = 78) (a : Addr) (w : World) : (binOp .eql 69 (.iface ty (.pointer (some a))) (.iface ty (.pointer (some a)))).run Try.prog w = .ok (.bool true) w := by
  obtain ⟨ms, h1⟩ := und69
  obtain ⟨i, h2, h3⟩ := info82
  obtain ⟨i', h2', h3'⟩ := info78
  obtain ⟨j, h4, h5⟩ := info85
  obtain ⟨j', h4', h5'⟩ := info81
  rcases h with rfl | rfl
  · exact run_eql_iface_ptr_same w a h1 und82 h2 h3 h4
  · exact run_eql_iface_ptr_same w a h1 und78 h2' h3' h4'
theorem eql_other {ty ty' : Nat} (h : ty = 82 ∨ ty = 78) (h' : ty' = 82 ∨ ty' = 78) {a b : Nat} {w : World} {ca cb : Array Value} {ta tb : TypeId} (hne : a ≠ b) (ha : w.heap[a]? = some (.cells ca ta (0, 0))) (hb : w.heap[b]? = some (.cells cb tb (0, 0))) :
    (binOp .eql 69 (.iface ty (.pointer (some ⟨a, 0, none⟩))) (.iface ty' (.pointer (some ⟨b, 0, none⟩)))).run Try.prog w = .ok (.bool false) w := by
  have hne' : (⟨a, 0, none⟩ : Addr) ≠ ⟨b, 0, none⟩ := fun e => hne (by injection e)
  obtain ⟨ms, h1⟩ := und69
  obtain ⟨i, h2, h3⟩ := info82
  obtain ⟨i', h2', h3'⟩ := info78
  obtain ⟨j, h4, h5⟩ := info85
  obtain ⟨j', h4', h5'⟩ := info81
  rcases h with rfl | rfl <;> rcases h' with rfl | rfl
  · exact run_eql_iface_ptr_other w h1 und82 h2 h3 h4 h5 hne' ha hb
  · exact eql_82_78 _ _ w
  · exact eql_78_82 _ _ w
  · exact run_eql_iface_ptr_other w h1 und78 h2' h3' h4' h5' hne' ha hb

theorem WF_upper {order : Nat} : ∀ {d m : Nat} {lo hi : Option ByteArray} {t : T d}, WF order d m lo hi t → cntT d t ≤ order
  | 0, _, _, _, t, h => by have h : List.length (α := S59) t + 1 ≤ order := h.2.2.1; show List.length (α := S59) t ≤ order; omega
  | _ + 1, _, _, _, _, h => h.2.1

/-- drop of a node, as a call. -/
def DropOk (order bt : Nat) (k : ByteArray) (d : Nat) : Prop := ∀ (t : T d) (v : Value) (w : World) (ok : Nat → Prop) (m : Nat) (lo hi : Option ByteArray), w.cell? ⟨bt, 0, none⟩ = some (.int .i64 order) → (NK d).M w 0 ok t [v] →
  WF order d m lo hi t → (0 < d → 2 ≤ m) → inR lo hi k → size d t < 1099511627776 → (∀ k, w.heap.size ≤ k → ok k) →
  Calls Try.prog 50 #[.pointer (some ⟨bt, 0, none⟩), v, .string k] w (fun e w' => DropPost d v ok w e w' (dropT order d t k))

set_option maxRecDepth 100000 in
set_option maxHeartbeats 16000000 in
theorem drop_inner {order bt d : Nat} {k : ByteArray} (ho3 : 3 ≤ order) (ho4 : order ≤ 64) (ih : DropOk order bt k d) : DropOk order bt k (d + 1) := by
  intro t v w ok m lo hi h0 hM hW hm hin hsz hok
  obtain ⟨ks, cs, rfl⟩ : ∃ (ks : List ByteArray) (cs : List (T d)), ((ks, cs) : List ByteArray × List (T d)) = t := ⟨_, _, rfl⟩
  have hm := hm (Nat.succ_pos d)
  have hS := Shape_of_WF ho3 ho4 hW
  obtain ⟨hw1, hw2, hw3⟩ := WF_succ.1 hW
  obtain ⟨cf, e1, e2, e3, _, _, _⟩ := focusD (WF_P ho3 d) hw1 hin
  obtain ⟨f1, _, _, _⟩ := WK_facts (WF_P ho3 d) hw1
  rw [← kx_eq f1] at e1 e2 e3
  obtain ⟨b, kv, cv, rfl, hb, hh, hk, hc⟩ := inner_M.1 hM
  obtain ⟨hs1, hs2, hs3, hs4⟩ := Shape_inner hS
  obtain ⟨hko, hkb⟩ := SRow_own hk
  obtain ⟨vs, hvo, hve, hvb⟩ := CRow_own hc
  obtain ⟨A, c, rfl, hkc, hkc2, _, hkA⟩ := own_cells hko
  obtain ⟨A', c', rfl, hvc, hvc2, hvl, hvA⟩ := own_cells hvo
  obtain ⟨_, _, e1', _, hkC⟩ := FRow_reads hk
  cases e1'
  have hix := kidIx_le ks k
  have hlt : kidIx ks k < cs.length := by omega
  obtain ⟨ad', rfl, hvA1⟩ := hvA (by omega)
  rw [dropT_inner order k hlt]
  have ecf : cs[kidIx ks k] = cf := by
    rw [List.getElem?_eq_getElem hlt] at e1
    exact Option.some.inj e1
  rw [← ecf] at e2
  have hmin : 1 ≤ minOf order d ∧ (0 < d → 2 ≤ minOf order d) := by
    cases d with
    | zero => exact ⟨by show 1 ≤ order / 2; omega, fun h => absurd h (Nat.lt_irrefl 0)⟩
    | succ d => exact ⟨by show 1 ≤ (order + 1) / 2; omega, fun _ => by show 2 ≤ (order + 1) / 2; omega⟩
  have hdw := (dropT_WF ho3 (k := k) e2 hmin.2 e3).2
  have hone : ∀ u ∈ vs, u.oneCell' = true := fun u hu => by
    obtain ⟨t, _, ht⟩ := hve.mem hu
    exact NK_one ((NK d).K_of_M ht)
  obtain ⟨vi, hvi, hMi⟩ := hve.get _ hlt
  obtain ⟨tyi, bi, rfl⟩ := NK_form ((NK d).K_of_M hMi)
  have hbi := NK_lt hMi
  obtain ⟨hti, csi, ei, hhi⟩ := NK_form2 hMi
  have hcell := hvA1 _ _ hvi
  rw [size_inner] at hsz
  have hszi : size d cs[kidIx ks k] ≤ sizes cs := by
    have := sizes_take_le cs _ hlt
    omega
  have hset : ∀ c', sizes (cs.set (kidIx ks k) c') + size d cs[kidIx ks k] = sizes cs + size d c' := fun c' => sizes_set cs (kidIx ks k) c' hlt
  -- what the recursion gives
  have hfacts : ∀ c', dropT order d cs[kidIx ks k] k = some c' → Shape d c' ∧ cntT d c' ≤ 64 ∧ sizes (cs.set (kidIx ks k) c') ≤ sizes cs := fun c' e => by
    obtain ⟨g1, g2, g3⟩ := hdw c' e
    refine ⟨Shape_of_WF ho3 ho4 g2, Nat.le_trans (WF_upper g2) ho4, ?_⟩
    have h1 := hset c'
    have h2 : size d c' ≤ size d cs[kidIx ks k] := by
      rw [size_eq, size_eq, g3, delL_length]
      omega
    omega
  have hkids : ∀ c ∈ cs, Shape d c ∧ cntT d c ≤ 64 := fun c hc => by
    obtain ⟨l, u, hw⟩ := WK_mem hw1 c hc
    exact ⟨Shape_of_WF ho3 ho4 hw, Nat.le_trans (WF_upper hw) ho4⟩
  have HP : Aside0 (∀ W, Below w.heap.size w W → Calls Try.prog 50 #[.pointer (some ⟨bt, 0, none⟩), .iface tyi (.pointer (some ⟨bi, 0, none⟩)), .string k] W (fun e w' => DropPost d (.iface tyi (.pointer (some ⟨bi, 0, none⟩))) ok W e w' (dropT order d cs[kidIx ks k] k))) :=
    ⟨fun W hW => ih _ _ W _ _ _ _ (pw_cell_below hW h0) (M_below' hMi hW) e2 hmin.2 e3 (by omega) (fun k h => hok k (Nat.le_trans hW.size h))⟩
  have hkid : Aside0 (Calls Try.prog 34 #[.pointer (some ⟨b, 0, none⟩), .string k] w fun e w' => e = .returned (.int .i64 (kidIx ks k : Nat)) ∧ Drawn0 w w') :=
    ⟨kid_calls b c A ks k w hkC hkc ((blk_cell hh 0).trans rfl) hs1 hs3⟩
  have x0 : w.cell? ⟨b, 0, none⟩ = some (.slice A ks.length c) := (blk_cell hh 0).trans rfl
  have x1 : w.cell? ⟨b, 1, none⟩ = some (.slice (some ad') cs.length c') := (blk_cell hh 1).trans rfl
  have hi9 : kidIx ks k ≤ 64 := by omega
  have hl1 : cs.length ≤ 64 := by omega
  have hl2 : 2 ≤ cs.length := by omega
  have hsz2 : sizes cs < 1099511627776 := hsz
  have HKIDS := Aside0.mk hkids
  have HF := Aside0.mk hfacts
  have HK := Aside0.mk hk
  have HVA := Aside0.mk hvA1
  have HVE := Aside0.mk hve
  have HONE := Aside0.mk hone
  have HVL := Aside0.mk hvl
  have HL := Aside0.mk hs2
  have H0 := Aside0.mk h0
  have HC := Aside0.mk hcell
  have HOK := Aside0.mk hok
  have k3 := ta_inner
  have k4 := ta_inner_no
  have HBI := Aside0.mk hbi
  have HTI := Aside0.mk hti
  have HHI := Aside0.mk hhi
  clear hM hW hm hin hS hw1 hw2 hw3 e1 e2 e3 f1 hb hh hk hc hs1 hs2 hs3 hs4 hko hvo hkA hvA hvA1 hve hone hvl hkC hix hszi hset hsz hMi hok h0 hkb hvb hvi hcell ih hfacts hkids hdw hmin ecf hbi hti hhi
  generalize kidIx ks k = i at *
  generalize dropT order d cs[i] k = s at *
  cases s with
  | none =>
    show Calls _ _ _ _ fun e w' => e = .returned _ ∧ Below _ _ _
    go_enter Try.func50, Try.ntmps50
    go_wp2_with fail
    refine hkid.out.mono ?_
    rintro e w' ⟨rfl, ⟨nq, rfl⟩⟩
    have hcell2 := pw_cell_below (pw_below_drewN (Below.refl w.heap.size w) nq) HC.out
    go_wp2_with fail
    refine (HP.out _ (pw_below_drewN (Below.refl _ _) nq)).mono ?_
    rintro e w2 ⟨rfl, hb2⟩
    have y1 := pw_cell_below hb2 x1
    have y2 := pw_cell_below hb2 hcell2
    have HB2 := Aside0.mk (below_then (pw_below_drewN (Below.refl w.heap.size w) nq) (Nat.le_refl _) hb2)
    have heq : (binOp .eql 69 (.iface tyi (.pointer (some ⟨bi, 0, none⟩))) (.iface tyi (.pointer (some ⟨bi, 0, none⟩)))).run Try.prog w2 = .ok (.bool true) w2 := eql_same HTI.out _ _
    clear hb2 x1 x0 hcell2
    go_wp2
    go_ret
    exact ⟨rfl, HB2.out⟩
  | some c2 =>
    show Calls _ _ _ _ fun e w' => FreshPost (d + 1) _ ok w e w'
    obtain ⟨hc2S, hc2n, hc2z⟩ := HF.out c2 rfl
    have HFW : Aside0 (∀ (W : World) (ty b : Nat), Below w.heap.size w W → (NK d).M W 0 ok c2 [.iface ty (.pointer (some ⟨b, 0, none⟩))] → Calls Try.prog 66 #[.pointer (some ⟨bt, 0, none⟩), .iface ty (.pointer (some ⟨b, 0, none⟩))] W fun e w' => e = .returned (.bool (fewT order d c2)) ∧ Drawn0 W w') :=
      ⟨fun W ty b hW hM => few_calls d c2 _ W (pw_cell_below hW H0.out) (by omega) ((NK d).K_of_M hM)⟩
    generalize fewT order d c2 = fw at *
    have HS2 := Aside0.mk hc2S
    have HN2 := Aside0.mk hc2n
    clear hc2S hc2n HF
    go_enter Try.func50, Try.ntmps50
    go_wp2_with fail
    refine hkid.out.mono ?_
    rintro e w' ⟨rfl, ⟨nq, rfl⟩⟩
    have hcell2 := pw_cell_below (pw_below_drewN (Below.refl w.heap.size w) nq) HC.out
    go_wp2_with fail
    refine (HP.out _ (pw_below_drewN (Below.refl _ _) nq)).mono ?_
    rintro e w2 ⟨ty2, b2, rfl, hb2n, hM2, hb2⟩
    have y1 := pw_cell_below hb2 x1
    have y0 := pw_cell_below hb2 x0
    have y2 := pw_cell_below hb2 hcell2
    have hbB := below_then (pw_below_drewN (Below.refl w.heap.size w) nq) (Nat.le_refl _) hb2
    have HB2 := Aside0.mk hbB
    obtain ⟨ht2, cs2, e2, hh2⟩ := NK_form2 hM2
    have hnb : w.heap.size ≤ b2 := hb2n
    have heq : (binOp .eql 69 (.iface ty2 (.pointer (some ⟨b2, 0, none⟩))) (.iface tyi (.pointer (some ⟨bi, 0, none⟩)))).run Try.prog w2 = .ok (.bool false) w2 :=
      eql_other ht2 HTI.out (by have := HBI.out; omega) hh2 ((hbB.block _ HBI.out).trans HHI.out)
    have HM2 := Aside0.mk hM2
    clear hb2 x1 x0 hcell2 hbB hh2 hM2 hb2n ht2 hkid HP
    have HCH : Aside0 (Calls Try.prog 61 #[.slice (some ad') cs.length c', .int .i64 i, .iface ty2 (.pointer (some ⟨b2, 0, none⟩))] w2 fun e w' => ∃ v', e = .returned v' ∧ w'.ownsRow w2.heap.size 69 1 v' cs.length (vs.set i (.iface ty2 (.pointer (some ⟨b2, 0, none⟩)))) ∧ Below w2.heap.size w2 w') :=
      ⟨changed_node _ _ _ i vs ty2 b2 w2 (fun _ => ⟨_, rfl, cells_later HVA.out HB2.out⟩) HVL.out (by omega) HONE.out hlt⟩
    go_wp2_with fail
    refine HCH.out.mono ?_
    rintro e w3 ⟨v3, rfl, ho3, hb3⟩
    obtain ⟨A3, c3, rfl, _, hc3m, _, _⟩ := own_cells ho3
    have HB3 := Aside0.mk (HB2.out.trans (hb3.mono HB2.out.size))
    have HM3 := Aside0.mk (M_below' HM2.out hb3)
    have HO3 := Aside0.mk ho3
    have hs23 : w2.heap.size ≤ w3.heap.size := hb3.size
    have HS3 : Aside0 (w.heap.size ≤ w2.heap.size) := ⟨HB2.out.size⟩
    have y03 := pw_cell_below hb3 y0
    clear ho3 hb3 y0 y1 y2 heq HCH
    go_wp2_with fail
    refine (HFW.out _ _ _ HB3.out HM3.out).mono ?_
    rintro e w4 ⟨rfl, ⟨n4, rfl⟩⟩
    have HBd := Aside0.mk (pw_below_drewN (Below.refl w3.heap.size w3) n4)
    have HB4 := Aside0.mk (HB3.out.trans (HBd.out.mono HB3.out.size))
    have HM4 := Aside0.mk (M_below' HM3.out HBd.out)
    have HO4 := Aside0.mk (pw_own_below HO3.out HBd.out)
    have y04 := pw_cell_below HBd.out y03
    clear HFW HM3 HO3 y03 HM2
    generalize w3.drewN n4 = w4 at *
    cases fw with
    | false =>
      have HN := Aside0.mk (newInner_calls (FRow_below HK.out HB4.out) (CRow_mk HO4.out ((Elems_below HVE.out HB4.out).set i HM4.out) (fun k h => HOK.out k (Nat.le_trans HS3.out h))) (fun k h => HOK.out k (Nat.le_trans HB4.out.size h)) (by omega))
      go_wp2_with fail
      refine HN.out.mono ?_
      rintro e w5 ⟨b5, rfl, hb5, hM5, hB5⟩
      have HFIN : Aside0 (w.heap.size ≤ b5 ∧ (NK (d + 1)).M w5 0 ok ((ks, cs.set i c2) : List ByteArray × List (T d)) [.iface 78 (.pointer (some ⟨b5, 0, none⟩))] ∧ Below w.heap.size w w5) := ⟨Nat.le_trans HB4.out.size hb5, hM5, HB4.out.trans (hB5.mono HB4.out.size)⟩
      clear hb5 hM5 hB5 HN HB4
      go_wp2
      go_ret
      exact ⟨78, b5, rfl, HFIN.out⟩
    | true =>
      have hj : max i 1 - 1 + 1 < cs.length := by omega
      have HN := Aside0.mk (mend_calls (i := max i 1 - 1) (bt := bt) (pw_cell_below HB4.out H0.out) ho3 (FRow_below HK.out HB4.out) (CRow_mk HO4.out ((Elems_below HVE.out HB4.out).set i HM4.out) (fun k h => HOK.out k (Nat.le_trans HS3.out h)))
        (by rw [List.length_set]; exact HL.out) (by have := HL.out; omega) (by rw [List.length_set]; exact hj)
        (fun c hc => by
          rcases List.mem_or_eq_of_mem_set hc with hc | rfl
          · exact (HKIDS.out c hc).1
          · exact HS2.out)
        (fun c hc => by
          rcases List.mem_or_eq_of_mem_set hc with hc | rfl
          · exact Nat.le_trans (HKIDS.out c hc).2 (by omega)
          · exact Nat.le_trans HN2.out (by omega)) (by omega) (fun k h => HOK.out k (Nat.le_trans HB4.out.size h)))
      go_wp2_with fail
      have ej : (max (i : Int) 1 - 1 : Int) = ((max i 1 - 1 : Nat) : Int) := by omega
      rw [ej]
      refine HN.out.mono ?_
      rintro e w5 ⟨ty5, b5, rfl, hb5, hM5, hB5⟩
      have HFIN : Aside0 (w.heap.size ≤ b5 ∧ (NK (d + 1)).M w5 0 ok (mendT order ks (cs.set i c2) (max i 1 - 1)) [.iface ty5 (.pointer (some ⟨b5, 0, none⟩))] ∧ Below w.heap.size w w5) := ⟨Nat.le_trans HB4.out.size hb5, hM5, HB4.out.trans (hB5.mono HB4.out.size)⟩
      clear hb5 hM5 hB5 HN HB4 ej
      go_wp2
      go_ret
      exact ⟨ty5, b5, rfl, HFIN.out⟩

theorem drop_ok {order bt : Nat} {k : ByteArray} (ho3 : 3 ≤ order) (ho4 : order ≤ 64) : ∀ d, DropOk order bt k d
  | 0 => fun l v w ok m lo hi h0 hM hW _ _ _ hok => drop_leaf k h0 hM (Shape_of_WF ho3 ho4 hW) hok
  | d + 1 => drop_inner ho3 ho4 (drop_ok ho3 ho4 d)
end Go.Proofs.Ytjabcdfbncglnaa
namespace Go.Proofs.Ytjabcdfbncglnaa
open Go.RowKit Go.Proofs.YtjabcdfbncglnaaW.PrintWords Go.Proofs.YtjabcdfbncglnaaW.PrintLast Go.Proofs.YtjabcdfbncglnaaW.PrintMore
open PTreeRanks (S59 k59 z59)
set_option linter.unusedVariables false
set_option linter.unusedSimpArgs false

theorem rd_eq (l : List S59) (i : Nat) (h : i < l.length) : PTreeRanks.rd_T59 l (i : Int) = l[i] := by
  unfold PTreeRanks.rd_T59
  rw [Int.toNat_natCast, List.getD_eq_getElem?_getD, List.getElem?_eq_getElem h]
  rfl
theorem wrap_small (n : Int) (h0 : 0 ≤ n) (h : n < 9223372036854775808) : wrap64 n = n := by
  unfold wrap64
  omega

theorem refRank_l {l : List S59} {k : ByteArray} (hs : SortedK (keysOf l)) (hn : l.length < 5864062014805) : ∀ (m i : Nat), i ≤ rank (keysOf l) k → rank (keysOf l) k < i + m →
    PTreeRanks.keystoneref05_Rank.l0 m l k (i : Int) = some ((rank (keysOf l) k : Nat) : Int)
  | 0, i, h1, h2 => by omega
  | m + 1, i, h1, h2 => by
    unfold PTreeRanks.keystoneref05_Rank.l0
    have hr := rank_le (keysOf l) k
    rw [keysOf_length] at hr
    by_cases h : i < l.length
    · rw [if_pos (by omega), if_pos (by omega), rd_eq l i h]
      have hlt := rank_lt (k := k) hs i (by rw [keysOf_length]; exact h)
      have hk : (keysOf l)[i]'(by rw [keysOf_length]; exact h) = l[i].f0 := List.getElem_map (l := l) S59.f0
      rw [hk] at hlt
      by_cases h3 : i < rank (keysOf l) k
      · have := hlt.2 h3
        unfold blt at this
        rw [if_pos this, wrap_small _ (by omega) (by omega)]
        have := refRank_l (k := k) hs hn m (i + 1) h3 (by omega)
        exact this
      · have e : ¬ blt l[i].f0 k = true := fun e => h3 (hlt.1 e)
        unfold blt at e
        rw [if_neg e]
        have : i = rank (keysOf l) k := by omega
        rw [this]
    · rw [if_neg (by omega)]
      have : i = rank (keysOf l) k := by omega
      rw [this]

theorem refRank {l : List S59} (k : ByteArray) (hs : SortedK (keysOf l)) (hn : l.length < 5864062014805) : PTreeRanks.keystoneref05_Rank.f (l.length + 1) l k = some ((rank (keysOf l) k : Nat) : Int) := by
  have hr := rank_le (keysOf l) k
  rw [keysOf_length] at hr
  exact refRank_l hs hn _ 0 (Nat.zero_le _) (by omega)

theorem beq_decide (a b : ByteArray) : (a.toList == b.toList) = decide (a = b) := by
  by_cases h : a = b
  · subst h; simp
  · rw [decide_eq_false h]
    apply Bool.eq_false_iff.2
    intro e
    exact h (toList_inj (by simpa using e))

theorem refHas {l : List S59} (k : ByteArray) (hs : SortedK (keysOf l)) (hn : l.length < 5864062014805) : PTreeRanks.keystoneref05_Has.f (l.length + 1) l k = some (has (keysOf l) k) := by
  unfold PTreeRanks.keystoneref05_Has.f
  rw [refRank k hs hn]
  show (if ((rank (keysOf l) k : Nat) : Int) < (l.length : Int) then _ else _) = _
  by_cases h : rank (keysOf l) k < l.length
  · rw [if_pos (by omega), if_pos (by omega), rd_eq l _ h, beq_decide]
    congr 1
    have hk : (keysOf l)[rank (keysOf l) k]'(by rw [keysOf_length]; exact h) = l[rank (keysOf l) k].f0 := List.getElem_map (l := l) S59.f0
    unfold has
    rw [List.getElem?_eq_getElem (by rw [keysOf_length]; exact h), hk]
    simp
  · rw [if_neg (by omega)]
    congr 1
    unfold has
    rw [List.getElem?_eq_none (by rw [keysOf_length]; omega)]
    rfl

theorem refPut {l : List S59} (k : ByteArray) (x : Int) (hs : SortedK (keysOf l)) (hn : l.length < 5864062014800) : PTreeRanks.keystoneref05_Put.f (l.length + 1) l k x = some (insL l k x) := by
  unfold PTreeRanks.keystoneref05_Put.f
  rw [refRank k hs (by omega), refHas k hs (by omega)]
  have hr := rank_le (keysOf l) k
  rw [keysOf_length] at hr
  have hl := @has_lt (keysOf l) k
  rw [keysOf_length] at hl
  simp only [Option.bind_some]
  rw [if_pos (by omega), if_pos (by omega)]
  rw [if_pos (by simp; omega), if_pos (by simp; omega)]
  unfold insL
  by_cases h : has (keysOf l) k = true
  · have hl := hl h
    rw [if_pos h, if_pos h, wrap_small _ (by omega) (by omega), if_pos (by omega), if_pos (by omega)]
    rw [if_pos (by simp; omega)]
    congr 1
    have e : (((rank (keysOf l) k : Nat) : Int) + 1).toNat = rank (keysOf l) k + 1 := by omega
    rw [e, Int.toNat_natCast]
    simp
  · rw [if_neg h, if_neg h]
    rw [if_pos (by simp; omega)]
    congr 1
    simp
end Go.Proofs.Ytjabcdfbncglnaa
namespace Go.Proofs.Ytjabcdfbncglnaa
open Go.RowKit Go.Proofs.YtjabcdfbncglnaaW.PrintWords Go.Proofs.YtjabcdfbncglnaaW.PrintLast Go.Proofs.YtjabcdfbncglnaaW.PrintMore
open PTreeRanks (S59 k59 z59)
set_option linter.unusedVariables false
set_option linter.unusedSimpArgs false

theorem flat_skip {d : Nat} (cs : List (T d)) (j i : Nat) : (cs.flatMap (toList d))[sizes (cs.take j) + i]? = ((cs.drop j).flatMap (toList d))[i]? := by
  conv => lhs; rw [← List.take_append_drop j cs, List.flatMap_append]
  have e : sizes (cs.take j) = ((cs.take j).flatMap (toList d)).length := by
    rw [List.length_flatMap]
    unfold sizes
    congr 1
    exact List.map_congr_left fun c _ => size_eq d c
  rw [List.take_append_drop, e, List.getElem?_append_right (by omega)]
  congr 1
  omega

theorem flat_at {d : Nat} (cs : List (T d)) (j i : Nat) (h : j < cs.length) (hi : i < size d cs[j]) : (cs.flatMap (toList d))[sizes (cs.take j) + i]? = (toList d cs[j])[i]? := by
  rw [flat_skip, List.drop_eq_getElem_cons h, List.flatMap_cons, List.getElem?_append_left (by rw [← size_eq]; exact hi)]

/-- 'At' below a node whose element with that number there is. -/
def AtEnd (x : S59) (w : World) (e : Ending) (w' : World) : Prop := e = .returned (.tuple #[.string x.f0, .int .i64 x.f1, .bool true]) ∧ Drawn0 w w'

set_option maxRecDepth 100000 in
set_option maxHeartbeats 4000000 in
theorem at_yes (d b : Nat) (t : T d) (v : Value) (i : Nat) (x : S59) (w : World) (h1 : w.cell? ⟨b, 1, none⟩ = some v) (hK : (NK d).K w t [v]) (hB : size d t ≤ 1099511627776) (hx : (toList d t)[i]? = some x) :
    Calls Try.prog 13 #[.pointer (some ⟨b, 0, none⟩), .int .i64 i] w (AtEnd x w) := by
  have hlen := Aside0.mk (len_calls b d t v w h1 hK)
  have HK := Aside0.mk hK
  have hi : i < size d t := by rw [size_eq]; exact (List.getElem?_eq_some_iff.1 hx).1
  have HX := Aside0.mk hx
  clear hK hx
  have k1 := ta_leaf
  have k2 := ta_leaf_no
  have k3 := ta_inner
  have k4 := ta_inner_no
  have m1 := meth_leaf
  have m2 := meth_inner
  have hneg : decide ((i : Int) < 0) = false := decide_eq_false (by omega)
  have hge : decide (size d t ≤ i) = false := decide_eq_false (by omega)
  go_enter Try.func13, Try.ntmps13
  go_wp2_with fail
  refine hlen.out.mono ?_
  rintro e w' ⟨rfl, rfl⟩
  go_wp2
  clear hlen hneg hge
  go_loopg [1, 7] d (fun kq v1 v7 w' => ∃ (t' : T kq) (i' : Nat), v1 = .int .i64 i' ∧ Aside0 ((NK kq).K w' t' [v7]) ∧ Aside0 ((toList kq t')[i']? = some x) ∧ Aside0 (size kq t' ≤ 1099511627776) ∧ Drawn0 w w')
  case atStart => exact ⟨t, i, rfl, HK, HX, ⟨hB⟩, by repeat (first | exact Drawn0.refl _ | apply Drawn0.step)⟩
  case round =>
    clear HK HX hi
    obtain ⟨t', i', rfl, HK, HX, HR, hD⟩ := hrel
    have hD := Aside0.mk hD
    cases gk with
    | zero =>
      obtain ⟨l, rfl⟩ : ∃ l : List S59, l = t' := ⟨t', rfl⟩
      obtain ⟨bl, A, c, A', c', rfl, x0, x1, hc, hc', hA, hA'⟩ := leaf_open HK.out
      have hx : l[i']? = some x := HX.out
      obtain ⟨hil, hx⟩ := List.getElem?_eq_some_iff.1 hx
      obtain ⟨ad, rfl, q0⟩ := C_scalar hA i' (by rw [List.length_map]; exact hil)
      obtain ⟨ad', rfl, q1⟩ := C_scalar hA' i' (by rw [List.length_map]; exact hil)
      rw [List.getElem_map, hx] at q0 q1
      clear hx HX HR HK hA hA'
      go_wp2
      go_quiet (fail)
      go_wp2
      go_ret3
      exact ⟨rfl, D_trans hD.out (D_refl' _ _)⟩
    | succ g =>
      obtain ⟨ks, cs, rfl⟩ : ∃ (ks : List ByteArray) (cs : List (T g)), ((ks, cs) : List ByteArray × List (T g)) = t' := ⟨_, _, rfl⟩
      obtain ⟨bl, A, c, A', c', rfl, x0, x1, x2, hc, hc', hA, hA'⟩ := inner_open HK.out
      have HA' := Aside0.mk hA'
      have hxx : (cs.flatMap (toList g))[i']? = some x := HX.out
      have HXX := Aside0.mk hxx
      have hlen9 := hA'.2.1
      have hi'b : i' ≤ 1099511627776 := by
        have h1 := (List.getElem?_eq_some_iff.1 hxx).1
        have h2 : sizes cs = (cs.flatMap (toList g)).length := size_eq (g + 1) ((ks, cs) : List ByteArray × List (T g))
        have h3 : sizes cs ≤ 1099511627776 := HR.out
        omega
      have HRR : Aside0 (sizes cs ≤ 1099511627776) := ⟨HR.out⟩
      clear HX HR HK hA hA' hxx
      go_wp2
      go_loopw [1, 9] (fun v1 v9 w' => ∃ j i2 : Nat, v9 = .int .i64 j ∧ v1 = .int .i64 i2 ∧ Aside0 (sizes (cs.take j) + i2 = i') ∧ Drawn0 wr w') (fun _ v9 _ => cs.length - (intOf v9).toNat)
      case atStart => exact ⟨0, i', rfl, rfl, ⟨by simp [sizes]⟩, by repeat (first | exact Drawn0.refl _ | apply Drawn0.step)⟩
      case round =>
        obtain ⟨j, i2, rfl, rfl, HJ, ⟨nj, rfl⟩⟩ := hrel
        have hjl : j < cs.length := by
          rcases Nat.lt_or_ge j cs.length with h | h
          · exact h
          · have h2 := HXX.out
            rw [← HJ.out, flat_skip, List.drop_of_length_le h] at h2
            cases h2
        obtain ⟨ad, vj, rfl, hcell, hKj⟩ := C_kid (C_drewN' HA'.out nj) j hjl
        have hsz := sizes_take_le cs j hjl
        have hsz2 := HRR.out
        have hi2 : i2 ≤ 1099511627776 := by have := HJ.out; omega
        have HKj := Aside0.mk hKj
        have HT := Aside0.mk (sizes_take cs j hjl)
        have HF := fun h => flat_at cs j i2 hjl h
        rw [HJ.out, HXX.out] at HF
        have HF := Aside0.mk HF
        have hs1 : size g cs[j] ≤ 1099511627776 := by omega
        clear hsz hsz2
        generalize cs[j] = tj at *
        by_cases hcmp : size g tj ≤ i2
        · have hsub : ((i2 : Int) - (size g tj : Nat)) = ((i2 - size g tj : Nat) : Int) := by omega
          have HSUB := Aside0.mk hsub
          have hdec : decide (size g tj ≤ i2) = true := decide_eq_true (by omega)
          have HJ2 : Aside0 (sizes (cs.take (j + 1)) + (i2 - size g tj) = i') := ⟨by rw [HT.out]; have := HJ.out; omega⟩
          clear hsub HF
          rcases count_any hKj with ⟨bt, rfl, hcnt⟩ | ⟨bt, rfl, hcnt⟩
          all_goals
            have HCN := Aside0.mk hcnt
            clear hcnt hKj
            go_wp2_with fail
            refine HCN.out.mono ?_
            rintro e w' ⟨rfl, rfl⟩
            go_wp2_with fail
            refine HCN.out.mono ?_
            rintro e w' ⟨rfl, rfl⟩
            go_wp2
            go_roundw
            case rel => exact ⟨j + 1, i2 - size g tj, by go_num, by rw [HSUB.out], HJ2, D_refl' _ _⟩
            case measure => simp [intOf]; omega
        · have hdec : decide (size g tj ≤ i2) = false := decide_eq_false (by omega)
          have HX2 : Aside0 ((toList g tj)[i2]? = some x) := ⟨(HF.out (by omega)).symm⟩
          clear HF
          rcases count_any hKj with ⟨bt, rfl, hcnt⟩ | ⟨bt, rfl, hcnt⟩
          all_goals
            have HCN := Aside0.mk hcnt
            clear hcnt hKj
            go_wp2_with fail
            refine HCN.out.mono ?_
            rintro e w' ⟨rfl, rfl⟩
            go_wp2
            go_roundg g
            case measure => omega
            case rel => exact ⟨tj, i2, rfl, HKj, HX2, ⟨hs1⟩, D_trans hD.out (D_refl' _ _)⟩

set_option maxRecDepth 100000 in
set_option maxHeartbeats 4000000 in
theorem at_no (d b : Nat) (t : T d) (v : Value) (i : Int) (w : World) (h1 : w.cell? ⟨b, 1, none⟩ = some v) (hK : (NK d).K w t [v]) (hB : size d t ≤ 1099511627776) (hi : i < 0 ∨ (size d t : Int) ≤ i) :
    Calls Try.prog 13 #[.pointer (some ⟨b, 0, none⟩), .int .i64 i] w fun e w' => e = .returned (.tuple #[.string ⟨#[]⟩, .int .i64 0, .bool false]) ∧ Drawn0 w w' := by
  have hlen := Aside0.mk (len_calls b d t v w h1 hK)
  clear hK
  by_cases hneg : i < 0
  · have hneg : decide (i < 0) = true := decide_eq_true hneg
    clear hi
    go_enter Try.func13, Try.ntmps13
    go_wp2
    go_ret3
    exact ⟨rfl, D_refl' _ 0⟩
  · have hge : decide (((size d t : Nat) : Int) ≤ (i : Int)) = true := decide_eq_true (by omega)
    have hneg : decide (i < 0) = false := decide_eq_false hneg
    clear hi
    go_enter Try.func13, Try.ntmps13
    go_wp2_with fail
    refine hlen.out.mono ?_
    rintro e w' ⟨rfl, rfl⟩
    go_wp2
    go_ret3
    exact ⟨rfl, D_refl' _ 0⟩

end Go.Proofs.Ytjabcdfbncglnaa
namespace Go.Proofs.Ytjabcdfbncglnaa
open Go.RowKit Go.Proofs.YtjabcdfbncglnaaW.PrintWords Go.Proofs.YtjabcdfbncglnaaW.PrintLast Go.Proofs.YtjabcdfbncglnaaW.PrintMore
open PTreeRanks (S59 k59 z59)
set_option linter.unusedVariables false
set_option linter.unusedSimpArgs false

def optV : Option S59 → Value
  | some x => .tuple #[.string x.f0, .int .i64 x.f1, .bool true]
  | none => .tuple #[.string ⟨#[]⟩, .int .i64 0, .bool false]

theorem at_calls (d b : Nat) (t : T d) (v : Value) (i : Int) (w : World) (h1 : w.cell? ⟨b, 1, none⟩ = some v) (hK : (NK d).K w t [v]) (hB : size d t ≤ 1099511627776) :
    Calls Try.prog 13 #[.pointer (some ⟨b, 0, none⟩), .int .i64 i] w fun e w' => e = .returned (optV (if i < 0 then none else (toList d t)[i.toNat]?)) ∧ Drawn0 w w' := by
  by_cases hi : i < 0
  · rw [if_pos hi]
    exact at_no d b t v i w h1 hK hB (.inl hi)
  · rw [if_neg hi]
    obtain ⟨n, rfl⟩ := Int.eq_ofNat_of_zero_le (Int.not_lt.1 hi)
    rw [Int.toNat_natCast]
    cases hx : (toList d t)[n]? with
    | none =>
      refine at_no d b t v n w h1 hK hB (.inr ?_)
      rw [size_eq]
      have := List.getElem?_eq_none_iff.1 hx
      omega
    | some x => exact at_yes d b t v n x w h1 hK hB hx

def hasT (d : Nat) (t : T d) (k : ByteArray) : Bool := has ((leafOf d t k).map S59.f0) k

set_option maxRecDepth 100000 in
set_option maxHeartbeats 4000000 in
theorem next_calls (d b : Nat) (t : T d) (v : Value) (k : ByteArray) (beyond : Bool) (w : World) (h1 : w.cell? ⟨b, 1, none⟩ = some v) (hK : (NK d).K w t [v]) (hS : Shape d t) (hB : size d t ≤ 1099511627776) :
    Calls Try.prog 16 #[.pointer (some ⟨b, 0, none⟩), .string k, .bool beyond] w fun e w' => e = .returned (optV (toList d t)[rankT d t k + if beyond && hasT d t k then 1 else 0]?) ∧ Drawn0 w w' := by
  have hr := Aside0.mk (rank_calls d b t v k w h1 hK hS hB)
  have hg : Aside0 (∀ n, Calls Try.prog 14 #[.pointer (some ⟨b, 0, none⟩), .string k] (w.drewN n) fun e w' => e = .returned (.tuple #[.int .i64 (getV (leafOf d t k) k), .bool (hasT d t k)]) ∧ Drawn0 (w.drewN n) w') :=
    ⟨fun n => get_calls b d t v k (w.drewN n) (by simpa using h1) (K_drewN hK n) hS⟩
  have ha : Aside0 (∀ n (i : Nat), Calls Try.prog 13 #[.pointer (some ⟨b, 0, none⟩), .int .i64 i] (w.drewN n) fun e w' => e = .returned (optV (toList d t)[i]?) ∧ Drawn0 (w.drewN n) w') :=
    ⟨fun n i => by
      have := at_calls d b t v i (w.drewN n) (by simpa using h1) (K_drewN hK n) hB
      rwa [if_neg (by omega), Int.toNat_natCast] at this⟩
  have hrl := rankT_le d t k
  clear hK hS h1
  generalize rankT d t k = r at *
  generalize getV (leafOf d t k) k = gv at *
  generalize hasT d t k = th at *
  have hO : ∀ o : Option S59, optV o = .tuple #[.string (o.getD ⟨⟨#[]⟩, 0⟩).f0, .int .i64 (o.getD ⟨⟨#[]⟩, 0⟩).f1, .bool o.isSome] := fun o => by cases o <;> rfl
  cases beyond
  · have ha1 := Aside0.mk (fun n => ha.out n r)
    simp only [hO] at ha1 ⊢
    simp only [Bool.false_and, Bool.false_eq_true, if_false, Nat.add_zero]
    generalize (toList d t)[r]? = o at *
    clear ha hO
    go_enter Try.func16, Try.ntmps16
    go_wp2_with fail
    refine hr.out.mono ?_
    rintro e w' ⟨rfl, ⟨n1, rfl⟩⟩
    go_wp2_with fail
    refine (ha1.out _).mono ?_
    rintro e w' ⟨rfl, ⟨n2, rfl⟩⟩
    go_wp2
    go_ret3
    exact ⟨rfl, by repeat (first | exact Drawn0.refl _ | apply Drawn0.step)⟩
  · cases th
    · have ha1 := Aside0.mk (fun n => ha.out n r)
      simp only [hO] at ha1 ⊢
      simp only [Bool.and_false, Bool.false_eq_true, if_false, Nat.add_zero]
      generalize (toList d t)[r]? = o at *
      clear ha hO
      go_enter Try.func16, Try.ntmps16
      go_wp2_with fail
      refine hr.out.mono ?_
      rintro e w' ⟨rfl, ⟨n1, rfl⟩⟩
      go_wp2_with fail
      refine (hg.out _).mono ?_
      rintro e w' ⟨rfl, ⟨n1, rfl⟩⟩
      go_wp2_with fail
      refine (ha1.out _).mono ?_
      rintro e w' ⟨rfl, ⟨n2, rfl⟩⟩
      go_wp2
      go_ret3
      exact ⟨rfl, by repeat (first | exact Drawn0.refl _ | apply Drawn0.step)⟩
    · have ha1 := Aside0.mk (fun n => ha.out n (r + 1))
      simp only [hO] at ha1 ⊢
      simp only [Bool.and_true, if_true]
      generalize (toList d t)[r + 1]? = o at *
      clear ha hO
      go_enter Try.func16, Try.ntmps16
      go_wp2_with fail
      refine hr.out.mono ?_
      rintro e w' ⟨rfl, ⟨n1, rfl⟩⟩
      go_wp2_with fail
      refine (hg.out _).mono ?_
      rintro e w' ⟨rfl, ⟨n1, rfl⟩⟩
      go_wp2_with fail
      refine (ha1.out _).mono ?_
      rintro e w' ⟨rfl, ⟨n2, rfl⟩⟩
      go_wp2
      go_ret3
      exact ⟨rfl, by repeat (first | exact Drawn0.refl _ | apply Drawn0.step)⟩

end Go.Proofs.Ytjabcdfbncglnaa
namespace Go.Proofs.Ytjabcdfbncglnaa
open Go.RowKit Go.Proofs.YtjabcdfbncglnaaW.PrintWords Go.Proofs.YtjabcdfbncglnaaW.PrintLast Go.Proofs.YtjabcdfbncglnaaW.PrintMore
open PTreeRanks (S59 k59 z59)
set_option linter.unusedVariables false
set_option linter.unusedSimpArgs false

/-- The blocks of a tree's nodes. -/
def OwnB (base bt : Nat) : Nat → Prop := fun k => base ≤ k ∧ k ≠ bt

/-- A tree of an order in block bt, all of it from block base on, with these elements. -/
def TL (order : Nat) (l : List S59) (base bt : Nat) (w : World) : Prop :=
  3 ≤ order ∧ order ≤ 64 ∧ base ≤ bt ∧ ∃ t : AT, listA t = l ∧ WFA order t ∧ KeysLe 281474976710656 t.1 t.2 ∧ ∃ v, w.heap[bt]? = some (.cells #[.int .i64 order, v] 71 (0, 0)) ∧ (NK t.1).M w 0 (OwnB base bt) t.2 [v]

variable {order base bt : Nat} {l : List S59} {w w' : World}

theorem TL.lt (h : TL order l base bt w) : bt < w.heap.size := by
  obtain ⟨_, _, _, t, _, _, _, v, h1, _⟩ := h
  exact blk_lt h1
theorem TL.sorted (h : TL order l base bt w) : SortedK (keysOf l) := by
  obtain ⟨h1, _, _, t, rfl, h2, _⟩ := h
  exact listA_sorted h1 h2
theorem TL.step (h : TL order l base bt w) (hm : ∀ k, base ≤ k → k < w.heap.size → w'.heap[k]? = w.heap[k]?) : TL order l base bt w' := by
  obtain ⟨h1, h2, h3, t, e, h4, hkl, v, h5, h6⟩ := h
  exact ⟨h1, h2, h3, t, e, h4, hkl, v, (hm bt h3 (blk_lt h5)).trans h5, Kd.M_step h6 (fun k hk hlt => hm k hk.1 hlt)⟩
theorem TL.below (h : TL order l base bt w) (hb : Below w.heap.size w w') : TL order l base bt w' := h.step (fun k _ hlt => hb.block k hlt)
theorem TL.far (h : TL order l base bt w) {r : Nat} (hg : w.grownBy w' (some r)) (hr : r < base) : TL order l base bt w' :=
  h.step (fun k hk hlt => hg.block k hlt (fun e => by injection e with e; omega))
theorem TL.drewN (h : TL order l base bt w) (n : Nat) : TL order l base bt (w.drewN n) := h.below (pw_below_drewN (Below.refl _ _) n)

/-- What is needed of a tree to be asked. -/
theorem TL.reads (h : TL order l base bt w) : ∃ t : AT, listA t = l ∧ WFA order t ∧ Shape t.1 t.2 ∧ ∃ v, w.cell? ⟨bt, 1, none⟩ = some v ∧ (NK t.1).K w t.2 [v] := by
  obtain ⟨h1, h2, h3, t, e, h4, _, v, h5, h6⟩ := h
  exact ⟨t, e, h4, Shape_of_WF h1 h2 h4, v, (blk_cell h5 1).trans rfl, (NK t.1).K_of_M h6⟩

theorem TL_len (h : TL order l base bt w) : Calls Try.prog 12 #[.pointer (some ⟨bt, 0, none⟩)] w fun e w' => e = .returned (.int .i64 (l.length : Nat)) ∧ Drawn0 w w' := by
  obtain ⟨t, rfl, _, hS, v, h1, hK⟩ := h.reads
  have := len_calls bt t.1 t.2 v w h1 hK
  rw [← sizeA_eq t]
  refine this.mono ?_
  rintro e w' ⟨rfl, rfl⟩
  exact ⟨rfl, Drawn0.refl _⟩
theorem TL_at (h : TL order l base bt w) (hl : l.length ≤ 1099511627776) (i : Int) : Calls Try.prog 13 #[.pointer (some ⟨bt, 0, none⟩), .int .i64 i] w fun e w' => e = .returned (optV (if i < 0 then none else l[i.toNat]?)) ∧ Drawn0 w w' := by
  obtain ⟨t, rfl, _, hS, v, h1, hK⟩ := h.reads
  rw [← sizeA_eq t] at hl
  exact at_calls t.1 bt t.2 v i w h1 hK hl
theorem TL_get (h : TL order l base bt w) (k : ByteArray) : Calls Try.prog 14 #[.pointer (some ⟨bt, 0, none⟩), .string k] w fun e w' => e = .returned (.tuple #[.int .i64 (getV l k), .bool (has (keysOf l) k)]) ∧ Drawn0 w w' := by
  have h3 := h.1
  obtain ⟨t, rfl, hW, hS, v, h1, hK⟩ := h.reads
  rw [← get_A h3 hW, ← has_A h3 hW]
  exact get_calls bt t.1 t.2 v k w h1 hK hS
theorem TL_rank (h : TL order l base bt w) (hl : l.length ≤ 1099511627776) (k : ByteArray) : Calls Try.prog 15 #[.pointer (some ⟨bt, 0, none⟩), .string k] w fun e w' => e = .returned (.int .i64 (rank (keysOf l) k : Nat)) ∧ Drawn0 w w' := by
  have h3 := h.1
  obtain ⟨t, rfl, hW, hS, v, h1, hK⟩ := h.reads
  rw [← rank_A h3 hW]
  rw [← sizeA_eq t] at hl
  exact rank_calls t.1 bt t.2 v k w h1 hK hS hl
theorem TL_next (h : TL order l base bt w) (hl : l.length ≤ 1099511627776) (k : ByteArray) (beyond : Bool) : Calls Try.prog 16 #[.pointer (some ⟨bt, 0, none⟩), .string k, .bool beyond] w fun e w' => e = .returned (optV l[rank (keysOf l) k + if beyond && has (keysOf l) k then 1 else 0]?) ∧ Drawn0 w w' := by
  have h3 := h.1
  obtain ⟨t, rfl, hW, hS, v, h1, hK⟩ := h.reads
  rw [← rank_A h3 hW, ← has_A h3 hW]
  rw [← sizeA_eq t] at hl
  exact next_calls t.1 bt t.2 v k beyond w h1 hK hS hl

theorem TL_put (h : TL order l base bt w) (k : ByteArray) (hk : k.size ≤ 281474976710656) (hl : l.length < 1099511627776) (hw : base ≤ w.heap.size) (x : Int) : Calls Try.prog 25 #[.pointer (some ⟨bt, 0, none⟩), .string k, .int .i64 x] w fun e w' =>
    e = .returned (.tuple #[.bool (!has (keysOf l) k), .int .i64 0]) ∧ w.grownBy w' (some bt) ∧ TL order (insL l k x) base bt w' := by
  have hlt := h.lt
  obtain ⟨h1, h2, h3, t, rfl, h4, hkl, v, h5, h6⟩ := h
  have hkl := putRoot_keys (order := order) x hk hkl
  have hp := putRoot_WF h1 h4 k x
  have hT : TreeIn order t bt (OwnB base bt) w := ⟨v, h5, h6, Shape_of_WF h1 h2 h4, by rw [sizeA_eq]; exact hl⟩
  refine (Put_calls k x h1 (by omega) hT (fun k hk => ⟨by omega, by omega⟩) (fun hk => hk.2 rfl)).mono ?_
  rintro e w' ⟨rfl, hg, v', h7, h8⟩
  refine ⟨?_, hg, h1, h2, h3, _, hp.2, hp.1, hkl, v', h7, h8⟩
  rw [sizeA_eq, sizeA_eq, hp.2, insL_length]
  cases has (keysOf (listA t)) k <;> simp

set_option maxRecDepth 100000 in
set_option maxHeartbeats 4000000 in
theorem new_calls (order : Nat) (h3 : 3 ≤ order) (h4 : order ≤ 64) (w : World) : Calls Try.prog 30 #[.int .i64 (order : Nat)] w fun e w' =>
    e = .returned (.tuple #[.pointer (some ⟨w.heap.size + 1, 0, none⟩), .int .i64 0]) ∧ Below w.heap.size w w' ∧ TL order [] w.heap.size (w.heap.size + 1) w' := by
  have b1 : decide (((order : Nat) : Int) < 3) = false := decide_eq_false (by omega)
  have b2 : decide (((64 : Nat) : Int) < ((order : Nat) : Int)) = false := decide_eq_false (by omega)
  have b3 : decide ((64 : Int) < ((order : Nat) : Int)) = false := decide_eq_false (by omega)
  go_enter Try.func30, Try.ntmps30
  go_wp2
  go_ret2
  refine ⟨rfl, below_mk (below_mk (Below.refl _ _) _) _, h3, h4, Nat.le_succ _, ⟨0, ([] : List S59)⟩, rfl, WF_zero.2 ⟨List.Pairwise.nil, (fun x hx => by cases hx), by show 0 + 1 ≤ order; omega, Nat.le_refl _⟩, (fun x hx => by cases hx), .iface 82 (.pointer (some ⟨w.heap.size, 0, none⟩)), ?_, ?_⟩
  · have e : w.heap.size + 1 = (w.alloc (Obj.cells #[Value.slice none 0 0, Value.slice none 0 0] 85)).heap.size := by simp
    rw [e]
    exact heap_alloc_new _ _
  · have hh : ((w.alloc (Obj.cells #[Value.slice none 0 0, Value.slice none 0 0] 85)).alloc (Obj.cells #[Value.int IntKind.i64 (order : Nat), Value.iface 82 (Value.pointer (some { block := w.heap.size, off := 0 }))] 71)).heap[w.heap.size]? = some (.cells #[Value.slice none 0 0, Value.slice none 0 0] 85 (0, 0)) :=
      (Below.heap_alloc _ _ _ (by simp)).trans (heap_alloc_new w _)
    refine leaf_M.2 ⟨w.heap.size, _, _, rfl, ⟨Nat.le_refl _, by omega⟩, hh, ?_, ?_⟩
    · exact ⟨(fun k hk => by cases hk), OwnRow.none_ _ _ _ _ _⟩
    · exact ⟨(fun k hk => by cases hk), OwnRow.none_ _ _ _ _ _⟩
end Go.Proofs.Ytjabcdfbncglnaa
namespace Go.Proofs.Ytjabcdfbncglnaa
open Go.RowKit Go.Proofs.YtjabcdfbncglnaaW.PrintWords Go.Proofs.YtjabcdfbncglnaaW.PrintLast Go.Proofs.YtjabcdfbncglnaaW.PrintMore
open PTreeRanks (S59 k59 z59)
set_option linter.unusedVariables false
set_option linter.unusedSimpArgs false

theorem deleteRoot_eq {order : Nat} (ho : 3 ≤ order) {t : AT} (h : WFA order t) (k : ByteArray) : deleteRoot order t k = shrinkT t.1 ((dropT order t.1 t.2 k).getD t.2) := by
  obtain ⟨d, t⟩ := t
  show (dropT order d t k).elim (⟨d, t⟩ : AT) (shrinkT d) = shrinkT d ((dropT order d t k).getD t)
  cases hd : dropT order d t k with
  | some t' => rfl
  | none =>
    show (⟨d, t⟩ : AT) = shrinkT d t
    cases d with
    | zero => rfl
    | succ d =>
      obtain ⟨ks, cs, rfl⟩ : ∃ (ks : List ByteArray) (cs : List (T d)), ((ks, cs) : List ByteArray × List (T d)) = t := ⟨t.1, t.2, rfl⟩
      obtain ⟨w1, w2, w3⟩ := WF_succ.1 (show WF order (d + 1) 2 none none ((ks, cs) : List ByteArray × List (T d)) from h)
      rcases cs with _ | ⟨c, _ | ⟨c2, cs⟩⟩
      · rfl
      · exact absurd w3 (by simp)
      · rfl

/-- What Delete answers and leaves. -/
def DeletePost (order : Nat) (t : AT) (bt : Nat) (k : ByteArray) (ok : Nat → Prop) (w : World) (e : Ending) (w' : World) : Prop :=
  e = .returned (.tuple #[.bool (decide (sizeA (deleteRoot order t k) < sizeA t)), .int .i64 0]) ∧ w.grownBy w' (some bt) ∧
    ∃ v, w'.heap[bt]? = some (.cells #[.int .i64 order, v] 71 (0, 0)) ∧ (NK (deleteRoot order t k).1).M w' 0 ok (deleteRoot order t k).2 [v]

set_option maxRecDepth 100000 in
set_option maxHeartbeats 8000000 in
theorem Delete_calls {order bt : Nat} {t : AT} {ok : Nat → Prop} {w : World} (k : ByteArray) (ho3 : 3 ≤ order) (ho4 : order ≤ 64) (hT : WFA order t) {v : Value} (hh : w.heap[bt]? = some (.cells #[.int .i64 order, v] 71 (0, 0))) (hM : (NK t.1).M w 0 ok t.2 [v])
    (hsz : sizeA t < 1099511627776) (hok : ∀ k, w.heap.size ≤ k → ok k) (hbt : ¬ ok bt) :
    Calls Try.prog 27 #[.pointer (some ⟨bt, 0, none⟩), .string k] w (DeletePost order t bt k ok w) := by
  unfold DeletePost
  rw [deleteRoot_eq ho3 hT]
  obtain ⟨d, t⟩ := t
  have hm : 0 < d → 2 ≤ (if (⟨d, t⟩ : AT).1 = 0 then 0 else 2) := fun hd => by
    show 2 ≤ (if d = 0 then 0 else 2)
    rw [if_neg (by omega)]
    exact Nat.le_refl _
  have hK := (NK d).K_of_M hM
  have x0 : w.cell? ⟨bt, 0, none⟩ = some (.int .i64 order) := (blk_cell hh 0).trans rfl
  have x1 : w.cell? ⟨bt, 1, none⟩ = some v := (blk_cell hh 1).trans rfl
  have hsd : size d t < 1099511627776 := hsz
  have HP : Aside0 (Calls Try.prog 50 #[.pointer (some ⟨bt, 0, none⟩), v, .string k] w fun e w' => ∃ ty b, e = .returned (.iface ty (.pointer (some ⟨b, 0, none⟩))) ∧ (NK d).M w' 0 ok ((dropT order d t k).getD t) [.iface ty (.pointer (some ⟨b, 0, none⟩))] ∧ Below w.heap.size w w') :=
    ⟨by
      refine (drop_ok ho3 ho4 d t v w ok _ _ _ x0 hM hT hm (inR_none k) hsd hok).mono ?_
      intro e w' h
      cases hd : dropT order d t k with
      | none =>
        rw [hd] at h
        obtain ⟨rfl, hb⟩ := h
        obtain ⟨ty, b, rfl⟩ := NK_form hK
        exact ⟨ty, b, rfl, M_below' hM hb, hb⟩
      | some t' =>
        rw [hd] at h
        obtain ⟨ty, b, rfl, _, hM', hb⟩ := h
        exact ⟨ty, b, rfl, hM', hb⟩⟩
  have hno := Aside0.mk (none_some bt w hK x1)
  have m1 := meth_leaf
  have m2 := meth_inner
  have k1 := ta_leaf_no
  have k3 := ta_inner
  have f1 : w.frozen? ⟨bt, 1, none⟩ = false := blk_frozen hh 1
  have hlt : bt < w.heap.size := blk_lt hh
  have HH := Aside0.mk hh
  clear hM x0 hm hT
  unfold sizeA
  show Calls _ _ _ _ (fun e w' => e = .returned (.tuple #[.bool (decide (_ < size d t)), _]) ∧ _ ∧ _)
  generalize (dropT order d t k).getD t = tt at *
  rcases count_any hK with ⟨bb, rfl, hcnt⟩ | ⟨bb, rfl, hcnt⟩
  all_goals
    have HC := Aside0.mk hcnt
    clear hcnt hK hh
    cases d with
    | zero =>
      go_enter Try.func27, Try.ntmps27
      go_wp2_with fail
      refine hno.out.mono ?_
      rintro e w' ⟨rfl, rfl⟩
      go_wp2_with fail
      refine HC.out.mono ?_
      rintro e w' ⟨rfl, rfl⟩
      go_wp2_with fail
      refine HP.out.mono ?_
      rintro e w2 ⟨ty, b, rfl, hM2, hb2⟩
      have y1 := pw_cell_below hb2 x1
      have g1 : w2.frozen? ⟨bt, 1, none⟩ = false := (hb2.frozen (p := ⟨bt, 1, none⟩) hlt).trans f1
      have hlt2 : bt < w2.heap.size := Nat.lt_of_lt_of_le hlt hb2.size
      have hG2 : w2.grownBy (w2.setCell ⟨bt, 1, none⟩ (.iface ty (.pointer (some ⟨b, 0, none⟩)))) (some bt) := gb_set (grownBy_refl _ _) _ _
      have hG : w.grownBy (w2.setCell ⟨bt, 1, none⟩ (.iface ty (.pointer (some ⟨b, 0, none⟩)))) (some bt) := grownBy_trans (gb_below hb2 (grownBy_refl _ _)) hG2
      have hH3 : (w2.setCell ⟨bt, 1, none⟩ (.iface ty (.pointer (some ⟨b, 0, none⟩)))).heap[bt]? = some (.cells #[.int .i64 order, .iface ty (.pointer (some ⟨b, 0, none⟩))] 71 (0, 0)) := (blk_set ((hb2.block _ hlt).trans HH.out) 1 _).trans rfl
      have HG := Aside0.mk hG
      have HM3 := Aside0.mk (M_step' hM2 hG2 hbt)
      have HH3 := Aside0.mk hH3
      clear hM2 hG hG2 hH3 hb2
      have hcn := count_any ((NK 0).K_of_M HM3.out)
      rcases hcn with ⟨lb, e9, hcn⟩ | ⟨lb, e9, hcn⟩
      · cases e9
        have HCN := Aside0.mk hcn
        clear hcn
        go_wp2_with fail
        refine HCN.out.mono ?_
        rintro e w' ⟨rfl, rfl⟩
        go_wp2
        go_ret2
        refine ⟨?_, HG.out, _, HH3.out, HM3.out⟩
        simp
        rfl
      · obtain ⟨_, _, _, e8, _⟩ := leaf_M.1 HM3.out
        cases e9
        cases e8
    | succ d =>
      obtain ⟨ks, cs, rfl⟩ : ∃ (ks : List ByteArray) (cs : List (T d)), ((ks, cs) : List ByteArray × List (T d)) = tt := ⟨tt.1, tt.2, rfl⟩
      go_enter Try.func27, Try.ntmps27
      go_wp2_with fail
      refine hno.out.mono ?_
      rintro e w' ⟨rfl, rfl⟩
      go_wp2_with fail
      refine HC.out.mono ?_
      rintro e w' ⟨rfl, rfl⟩
      go_wp2_with fail
      refine HP.out.mono ?_
      rintro e w2 ⟨ty, b, rfl, hM2, hb2⟩
      have y1 := pw_cell_below hb2 x1
      have g1 : w2.frozen? ⟨bt, 1, none⟩ = false := (hb2.frozen (p := ⟨bt, 1, none⟩) hlt).trans f1
      have hlt2 : bt < w2.heap.size := Nat.lt_of_lt_of_le hlt hb2.size
      have hG2 : w2.grownBy (w2.setCell ⟨bt, 1, none⟩ (.iface ty (.pointer (some ⟨b, 0, none⟩)))) (some bt) := gb_set (grownBy_refl _ _) _ _
      have hG : w.grownBy (w2.setCell ⟨bt, 1, none⟩ (.iface ty (.pointer (some ⟨b, 0, none⟩)))) (some bt) := grownBy_trans (gb_below hb2 (grownBy_refl _ _)) hG2
      have hH3 : (w2.setCell ⟨bt, 1, none⟩ (.iface ty (.pointer (some ⟨b, 0, none⟩)))).heap[bt]? = some (.cells #[.int .i64 order, .iface ty (.pointer (some ⟨b, 0, none⟩))] 71 (0, 0)) := (blk_set ((hb2.block _ hlt).trans HH.out) 1 _).trans rfl
      have HG := Aside0.mk hG
      have HM3 := Aside0.mk (M_step' hM2 hG2 hbt)
      have HH3 := Aside0.mk hH3
      clear hM2 hG hG2 hH3 hb2
      obtain ⟨b3, kv, cv, e3, hb3, hh3, hk3, hc3⟩ := inner_M.1 HM3.out
      cases e3
      obtain ⟨vs, hvo, hve, hvb⟩ := CRow_own hc3
      obtain ⟨A', c', rfl, hvc, hvc2, hvl, hvA⟩ := own_cells hvo
      have z1 : (w2.setCell ⟨bt, 1, none⟩ (.iface 78 (.pointer (some ⟨b, 0, none⟩)))).cell? ⟨b, 1, none⟩ = some (.slice A' cs.length c') := (blk_cell hh3 1).trans rfl
      have z0 : (w2.setCell ⟨bt, 1, none⟩ (.iface 78 (.pointer (some ⟨b, 0, none⟩)))).cell? ⟨bt, 1, none⟩ = some (.iface 78 (.pointer (some ⟨b, 0, none⟩))) := (blk_cell HH3.out 1).trans rfl
      have zf : (w2.setCell ⟨bt, 1, none⟩ (.iface 78 (.pointer (some ⟨b, 0, none⟩)))).frozen? ⟨bt, 1, none⟩ = false := blk_frozen HH3.out 1
      have hlt3 : bt < (w2.setCell ⟨bt, 1, none⟩ (.iface 78 (.pointer (some ⟨b, 0, none⟩)))).heap.size := blk_lt HH3.out
      have hcn := count_any ((NK (d + 1)).K_of_M HM3.out)
      by_cases h1 : cs.length = 1
      · obtain ⟨c0, rfl⟩ := List.length_eq_one_iff.1 h1
        obtain ⟨gc, rfl⟩ : ∃ gc, A' = some ⟨gc, 0, none⟩ := by
          rcases hvo.2 with ⟨h, _⟩ | ⟨g', cap', cur', h, _⟩
          · exact absurd h (by simp)
          · cases h; exact ⟨_, rfl⟩
        obtain ⟨ad', e7, hvA1⟩ := hvA (by simp)
        cases e7
        obtain ⟨v0, hv0, hM0⟩ := hve.get 0 (by simp)
        obtain ⟨ty0, b0, rfl⟩ := NK_form ((NK d).K_of_M hM0)
        have z2 : (w2.setCell ⟨bt, 1, none⟩ (.iface 78 (.pointer (some ⟨b, 0, none⟩)))).cell? ⟨gc, 0, none⟩ = some (.iface ty0 (.pointer (some ⟨b0, 0, none⟩))) := by have h := hvA1 0 _ hv0; rw [Addr.add_lit, Nat.zero_add] at h; exact h
        have HM0 := Aside0.mk hM0
        clear hcn hk3 hc3 hvo hve hvb hvA hvA1 hh3 hvc hvl hv0 hM0 HM3
        have hG4 : (w2.setCell ⟨bt, 1, none⟩ (.iface 78 (.pointer (some ⟨b, 0, none⟩)))).grownBy ((w2.setCell ⟨bt, 1, none⟩ (.iface 78 (.pointer (some ⟨b, 0, none⟩)))).setCell ⟨bt, 1, none⟩ (.iface ty0 (.pointer (some ⟨b0, 0, none⟩)))) (some bt) := gb_set (grownBy_refl _ _) _ _
        have HG4 := Aside0.mk (grownBy_trans HG.out hG4)
        have HH4 : Aside0 (((w2.setCell ⟨bt, 1, none⟩ (.iface 78 (.pointer (some ⟨b, 0, none⟩)))).setCell ⟨bt, 1, none⟩ (.iface ty0 (.pointer (some ⟨b0, 0, none⟩)))).heap[bt]? = some (.cells #[.int .i64 order, .iface ty0 (.pointer (some ⟨b0, 0, none⟩))] 71 (0, 0))) := ⟨(blk_set HH3.out 1 _).trans rfl⟩
        have HM4 := Aside0.mk (M_step' HM0.out hG4 hbt)
        have hcn := count_any ((NK d).K_of_M HM4.out)
        clear hG4 HM0
        rcases hcn with ⟨lb, e9, hcn⟩ | ⟨lb, e9, hcn⟩
        all_goals
          cases e9
          have HCN := Aside0.mk hcn
          clear hcn
          go_wp2_with fail
          refine HCN.out.mono ?_
          rintro e w' ⟨rfl, rfl⟩
          go_wp2
          go_ret2
          refine ⟨?_, HG4.out, _, HH4.out, HM4.out⟩
          simp
          rfl
      · rcases hcn with ⟨lb, e9, hcn⟩ | ⟨lb, e9, hcn⟩
        · cases e9
        · cases e9
          have HCN := Aside0.mk hcn
          have hne : (((cs.length : Nat) : Int) = 1) = False := eq_false (by omega)
          clear hcn hk3 hc3 hvo hve hvb hvA hh3 hvc hvl
          go_wp2_with fail
          refine HCN.out.mono ?_
          rintro e w' ⟨rfl, rfl⟩
          go_wp2
          go_ret2
          have es : shrinkT (d + 1) ((ks, cs) : List ByteArray × List (T d)) = (⟨d + 1, ((ks, cs) : List ByteArray × List (T d))⟩ : AT) := by
            rcases cs with _ | ⟨c1, _ | ⟨c2, cs⟩⟩
            · rfl
            · exact absurd rfl h1
            · rfl
          rw [es]
          refine ⟨?_, HG.out, _, HH3.out, HM3.out⟩
          simp
end Go.Proofs.Ytjabcdfbncglnaa
namespace Go.Proofs.Ytjabcdfbncglnaa
open Go.RowKit Go.Proofs.YtjabcdfbncglnaaW.PrintWords Go.Proofs.YtjabcdfbncglnaaW.PrintLast Go.Proofs.YtjabcdfbncglnaaW.PrintMore
open PTreeRanks (S59 k59 z59)
set_option linter.unusedVariables false
set_option linter.unusedSimpArgs false
variable {order base bt : Nat} {l : List S59} {w w' : World}

end Go.Proofs.Ytjabcdfbncglnaa
