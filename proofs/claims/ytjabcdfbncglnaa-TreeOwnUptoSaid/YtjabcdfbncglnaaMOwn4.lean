/- WHAT IS PROVED: Nodes of a tree makes a row of its own with the nodes that the walk through the queue tells. how the nodes lie that Nodes tells: each node at its place, its kids one behind the other. the document's filled and holds answer true for a node of the right form. what stands while the document's node goes through a tree's nodes, and the bounds of kids. the document's node goes through a tree's nodes: its keys are gathered, its depth told, nothing is bad. the document's node, called at the place of a tree that lies in the list of nodes, gathers the tree's keys. -/
import Derived.Test.YtjabcdfbncglnaaMOwn3
import Derived.Deep.RegionHeld3
import Derived.StillTailTactics
namespace Go.Proofs.Ytjabcdfbncglnaa
open Go.RowKit Go.Proofs.YtjabcdfbncglnaaW.PrintWords Go.Proofs.YtjabcdfbncglnaaW.PrintLast Go.Proofs.YtjabcdfbncglnaaW.PrintMore
open PTreeRanks (S59 k59 z59 S43 k43 z43)
set_option linter.unusedVariables false
set_option linter.unusedSimpArgs false

theorem info43 : (Try.prog.info? 43).map (fun i => (i.zero, i.size, i.bytes)) = some (some (.agg #[.bool false, .slice none 0 0, .slice none 0 0]), 3, 56) := by kernel_rfl
theorem info3 : (Try.prog.info? 3).map (fun i => (i.zero, i.size, i.bytes)) = some (some (.int .i64 0), 1, 8) := by kernel_rfl
theorem info69 : (Try.prog.info? 69).map (fun i => (i.zero, i.size, i.bytes)) = some (some .nilIface, 1, 16) := by kernel_rfl

def QEl (w : World) (q : List AT) (vs : List Value) : Prop := Elems (fun (t : AT) v => (NK t.1).K w t.2 [v]) q vs

/-- What stands when n nodes are told. -/
def NdInv (w : World) (q : List AT) (out : List S43) (v3 v4 : Value) (W : World) : Prop :=
  (∃ vs, W.ownsRow w.heap.size 69 1 v3 q.length vs ∧ QEl w q vs) ∧ Kd.S k43 43 W w.heap.size (fun _ => True) v4 out ∧ Below w.heap.size w W

def rangeI (n j : Nat) : List Int := (List.range j).map fun i => ((n + i : Nat) : Int)
theorem rangeI_succ (n j : Nat) : rangeI n (j + 1) = rangeI n j ++ [((n + j : Nat) : Int)] := by
  unfold rangeI
  rw [List.range_succ, List.map_append]
  rfl

/-- What stands when j kids of a node have been told; its cells lie in block nb. -/
def KidInv (w : World) (q : List AT) (out : List S43) (s0 nb : Nat) (keys : List ByteArray) (d : Nat) (cs : List (T d)) (Ak : Option Addr) (ck : Nat) (v4 : Value) (j : Nat) (v3 : Value) (W : World) : Prop :=
  ∃ iv, W.heap[nb]? = some (.cells #[.bool false, .slice Ak keys.length ck, iv] 43 (0, 0)) ∧ Kd.string.R 9 W w.heap.size (fun k => s0 ≤ k ∧ k < nb) (.slice Ak keys.length ck) keys ∧ (Kd.int .i64).R 3 W w.heap.size (fun k => nb < k) iv (rangeI q.length j) ∧
    Kd.S k43 43 W w.heap.size (fun k => k < s0) v4 out ∧ (∃ vs, W.ownsRow w.heap.size 69 1 v3 (q.length + j) vs ∧ QEl w (q ++ (cs.take j).map fun c => (⟨d, c⟩ : AT)) vs) ∧ Below w.heap.size w W

set_option maxHeartbeats 4000000 in
set_option maxRecDepth 100000 in
theorem nodes_calls (b : Nat) (t : AT) (v : Value) (w : World) (h1 : w.cell? ⟨b, 1, none⟩ = some v) (hK : (NK t.1).K w t.2 [v]) (hG : GoodA t) (g : Nat) (r : List S43) (hr : bfs g [t] 0 [] = some r) (hN : r.length ≤ 1099511627776) :
    Calls Try.prog 17 #[.pointer (some ⟨b, 0, none⟩)] w fun e w' => ∃ v, e = .returned v ∧ Kd.S k43 43 w' w.heap.size (fun _ => True) v r ∧ Below w.heap.size w w' := by
  have hno := Aside0.mk (none_some b w hK h1)
  have hq0 : QEl w [t] [v] := Elems.one (R := fun (t : AT) v => (NK t.1).K w t.2 [v]) hK
  obtain ⟨ty, bt, rfl⟩ := NK_form hK
  have HQ0 := Aside0.mk hq0
  have HR := Aside0.mk hr
  have HG := Aside0.mk hG
  have HNN := Aside0.mk hN
  clear hK hq0 hr hG hN
  have k1 := ta_leaf
  have k2 := ta_leaf_no
  have k3 := ta_inner
  have k4 := ta_inner_no
  have hu43 := Try.underlying43
  go_enter Try.func17, Try.ntmps17
  go_wp2_with fail
  refine hno.out.mono ?_
  rintro e w' ⟨rfl, rfl⟩
  clear hno
  go_wp2
  go_loopg [3, 4, 5] g (fun kq v3 v4 v5 W => ∃ (q : List AT) (out : List S43), v5 = .int .i64 (out.length : Nat) ∧ Aside0 (bfs kq q out.length out = some r) ∧ Aside0 (out.length ≤ q.length) ∧ Aside0 (∀ t ∈ q, GoodA t) ∧ Aside0 (NdInv w q out v3 v4 W))
  case atStart =>
    refine ⟨[t], [], rfl, HR, ⟨Nat.zero_le _⟩, ⟨fun x hx => by rw [List.mem_singleton.1 hx]; exact HG.out⟩, ⟨⟨[.iface ty (.pointer (some ⟨bt, 0, none⟩))], ?_, HQ0.out⟩, Kd.S_nil _ _ _ _ _, below_mk (Below.refl _ _) _⟩⟩
    exact own_of_heap (cap := 1) (cur := [.iface ty (.pointer (some ⟨bt, 0, none⟩))]) (Nat.le_refl _) (heap_alloc_new w _) rfl (by decide) (Nat.le_refl _) rfl
  case round =>
    clear HR HG HQ0
    obtain ⟨q, out, rfl, HF, HL, HG, HI⟩ := hrel
    cases gk with
    | zero => exact absurd HF.out (by simp [bfs])
    | succ g =>
      obtain ⟨⟨vs, hown, hel⟩, hRo, hB⟩ := HI.out
      obtain ⟨A3, c3, rfl, hc3, hc3m, hlv, hcells⟩ := own_cells hown
      by_cases hlt : out.length < q.length
      · have b1 : decide (((out.length : Nat) : Int) < ((q.length : Nat) : Int)) = true := decide_eq_true (by omega)
        have p1 : ((out.length : Nat) : Int) < ((q.length : Nat) : Int) := by omega
        have p0 : (0 : Int) ≤ ((out.length : Nat) : Int) := by omega
        obtain ⟨vi, hvi, hKi⟩ := hel.get out.length hlt
        obtain ⟨ad, rfl, hcell⟩ := hcells (by omega)
        have hci := hcell out.length vi hvi
        have hgi := HG.out _ (List.getElem_mem hlt)
        have HF2 : Aside0 (bfs g (q ++ kidsA q[out.length]) (out ++ [nodeOf q[out.length] q.length]).length (out ++ [nodeOf q[out.length] q.length]) = some r) := ⟨by
          have hf := HF.out
          unfold bfs at hf
          rw [List.getElem?_eq_getElem hlt] at hf
          rw [List.length_append]
          exact hf⟩
        have HGK := Aside0.mk (GoodA_kids hgi)
        have HNR : Aside0 (q.length ≤ r.length) := ⟨bfs_length HF.out rfl HL.out⟩
        have HON := Aside0.mk hown
        have HRO := Aside0.mk hRo
        have HB := Aside0.mk hB
        have HEL := Aside0.mk hel
        replace p0 := eq_true p0
        replace p1 := eq_true p1
        clear hown hRo hB hel HI HF hcells hcell hvi
        rcases hqi : q[out.length] with ⟨d, t⟩
        rw [hqi] at hKi hgi HF2 HGK
        cases d with
        | zero =>
          obtain ⟨l, rfl⟩ : ∃ l : List S59, l = t := ⟨t, rfl⟩
          obtain ⟨bl, A, c, A', c', rfl, x0, x1, hc, hc', hA, hA'⟩ := leaf_open hKi
          have y0 := pw_cell_below HB.out x0
          have HC : Aside0 (Calls Try.prog 36 #[.slice A l.length c] wr fun e w' => ∃ v, e = .returned v ∧ Kd.string.R 9 w' wr.heap.size (fun _ => True) v (l.map S59.f0) ∧ Below wr.heap.size wr w') := ⟨by
            have h9 : l.length ≤ 900 := hgi.1.2
            have := cloned_calls A c (l.map S59.f0) wr (by rw [List.length_map]; exact Kd.C_below hA HB.out) (by rw [List.length_map]; exact hc) (by rw [List.length_map]; omega) (fun k hk => by obtain ⟨x, hx, rfl⟩ := List.mem_map.1 hk; exact hgi.2 x hx)
            rwa [List.length_map] at this⟩
          clear x0 x1 hA hA' hKi hc hc' hgi
          go_wp2_with fail
          refine HC.out.mono ?_
          rintro e w2 ⟨kv, rfl, hRk, hb2⟩
          obtain ⟨Ak, ck, rfl, hck, hCk⟩ := Kd.R_reads hRk
          have hsz := HB.out.size
          have HM2 : Aside0 (k43.M w2 w.heap.size (fun k => wr.heap.size ≤ k) ⟨true, l.map S59.f0, []⟩ [.bool true, .slice Ak (l.map S59.f0).length ck, .slice none 0 0]) := ⟨PTreeRanks.k43_mkM _ _ _ _ (Kd.R_lower (Kd.R_mono (Kd.R_bound hRk) (fun k hk => hk.2.1)) hsz) (Kd.R_nil _ _ _ _ _)⟩
          have HLT : Aside0 (∀ k, wr.heap.size ≤ k → True ∧ some k ≠ u4.ownBlock) := ⟨fun k hk => ⟨trivial, fun e => by have := Kd.S_lt HRO.out k e.symm; omega⟩⟩
          have HRO2 : Aside0 (Kd.S k43 43 w2 w.heap.size (fun k => True ∧ ¬ wr.heap.size ≤ k) u4 out) := ⟨Kd.S_below (Kd.S_mono (Kd.S_bound HRO.out) (fun k hk => ⟨trivial, by have := hk.2.2.1; omega⟩)) hb2⟩
          have HON2 := Aside0.mk (own_move HON.out (fun k hk => hb2.block k (own_lt HON.out k hk)))
          have HB2 := Aside0.mk (below_go (W0 := w) hb2 (w1 := wr) (by exact HB.out))
          clear hRk hCk hb2 hck hsz y0 HC HON HRO HB
          generalize (l.map S59.f0).length = nk at *
          go_wp2_with ((with_reducible refine gate_builtin (b := .append) (xs := #[.tmp 31, .tmp 38]) rfl ?_); at_builtin; refine Kd.S_append k43 (w0 := w) w.heap.size rfl (.tmp 31) (.tmp 38) 37 43 (.agg #[.bool false, .slice none 0 0, .slice none 0 0]) 56 rfl Try.underlying37 info43 rfl (by decide) (by omega) u4 out (⟨true, l.map S59.f0, []⟩ : S43) [.bool true, .slice Ak nk ck, .slice none 0 0] (fun _ => True) (fun k => wr.heap.size ≤ k) rfl rfl ?aP HLT.out ?aF ?aO ?aB ?aS ?aL ?_; (case aP => exact HM2.out); (case aF => exact fun _ _ => trivial); (case aO => exact HRO2.out); (case aB => exact HB2.out); (case aS => exact HB2.out.size); (case aL => have := HNR.out; have := HNN.out; omega); intro v1 w3 ho hb hg hat; have HO := Aside0.mk ho; have HB3 := Aside0.mk hb; have HG3 := Aside0.mk hg; clear ho hb hg hat)
          have HON3 := Aside0.mk (own_other HON2.out HG3.out (by obtain ⟨inner, hi⟩ := Kd.S_own HRO2.out; exact own_differ' HON2.out hi (by decide)))
          go_roundg g
          case measure => omega
          case rel =>
            refine ⟨q, out ++ [⟨true, l.map S59.f0, []⟩], ?_, ?_, ?_, HG, ⟨⟨⟨vs, HON3.out, HEL.out⟩, HO.out, HB3.out⟩⟩⟩
            · first | rfl | (simp; done) | (congr 1; simp; done)
            · have := HF2.out
              rw [show kidsA ⟨0, l⟩ = [] from rfl, List.append_nil] at this
              exact ⟨this⟩
            · exact ⟨by rw [List.length_append]; show out.length + 1 ≤ q.length; omega⟩
        | succ d =>
          obtain ⟨ks, cs, rfl⟩ : ∃ (ks : List ByteArray) (cs : List (T d)), ((ks, cs) : List ByteArray × List (T d)) = t := ⟨t.1, t.2, rfl⟩
          obtain ⟨bl, A, c, A', c', rfl, x0, x1, x2, hc, hc', hA, hA'⟩ := inner_open hKi
          have y0 := pw_cell_below HB.out x0
          have h9 : ks.length ≤ 900 := hgi.1.2.2.1
          have h9' : cs.length = ks.length + 1 := hgi.1.2.1
          have HC : Aside0 (Calls Try.prog 36 #[.slice A ks.length c] wr fun e w' => ∃ v, e = .returned v ∧ Kd.string.R 9 w' wr.heap.size (fun _ => True) v ks ∧ Below wr.heap.size wr w') := ⟨cloned_calls A c ks wr (Kd.C_below hA HB.out) hc (by omega) hgi.2.1⟩
          have HA' := Aside0.mk hA'
          have hnk : cs.length ≤ 901 := by omega
          clear x0 x2 hA hA' hKi hc hgi h9 h9'
          go_wp2_with fail
          refine HC.out.mono ?_
          rintro e w2 ⟨kv, rfl, hRk, hb2⟩
          obtain ⟨Ak, ck, rfl, hck, hCk⟩ := Kd.R_reads hRk
          have HB2 := Aside0.mk (below_go (W0 := w) hb2 (w1 := wr) (by exact HB.out))
          have y1 : (w2.alloc (.cells #[.bool false, .slice Ak ks.length ck, .slice none 0 0] 43)).cell? ⟨bl, 1, none⟩ = some (.slice A' cs.length c') := pw_cell_below (below_mk HB2.out _) x1
          have HI : Aside0 (KidInv w q out wr.heap.size w2.heap.size ks d cs Ak ck u4 0 (.slice (some ad) q.length c3) (w2.alloc (.cells #[.bool false, .slice Ak ks.length ck, .slice none 0 0] 43))) := by
            have hs2 := hb2.size
            refine ⟨_, heap_alloc_new w2 _, Kd.R_alloc (Kd.R_lower (Kd.R_mono (Kd.R_bound hRk) (fun k hk => ⟨hk.2.1, hk.2.2.1⟩)) HB.out.size) _, Kd.R_nil _ _ _ _ _, ?_, ⟨vs, ?_, ?_⟩, below_mk HB2.out _⟩
            · exact Kd.S_alloc (Kd.S_below (Kd.S_mono (Kd.S_bound HRO.out) (fun k hk => hk.2.2.1)) hb2) _
            · exact own_move HON.out (fun k hk => by
                have hl := own_lt HON.out k hk
                exact (Below.heap_alloc _ _ _ (by omega)).trans (hb2.block k hl))
            · rw [List.take_zero, List.map_nil, List.append_nil]
              exact HEL.out
          have hs02 := hb2.size
          clear hRk hCk hb2 hck y0 HC HON HRO x1
          go_wp2
          clear HB hci
          have hwnb := HB2.out.size
          clear HB2
          generalize wr.heap.size = s0 at *
          generalize w2.heap.size = nb at *
          go_loopg [3, 54] cs.length (fun kq v3 v54 W => ∃ j : Nat, kq + j = cs.length ∧ v54 = .int .i64 j ∧ Aside0 (KidInv w q out s0 nb ks d cs Ak ck u4 j v3 W))
          case atStart => exact ⟨0, rfl, rfl, HI⟩
          case round =>
            clear HI y1
            obtain ⟨j, hkj, rfl, HI⟩ := hrel
            obtain ⟨iv, hh, hRk, hRi, hRo, ⟨vs', hown, hel⟩, hB⟩ := HI.out
            obtain ⟨Ai, ci, rfl, _, _⟩ := Kd.R_reads hRi
            obtain ⟨A3', c3', rfl, hc3', hc3m', hlv', _⟩ := own_cells hown
            have z0 : wr.cell? ⟨nb, 0, none⟩ = some (.bool false) := (blk_cell hh 0).trans rfl
            have z1 : wr.cell? ⟨nb, 1, none⟩ = some (.slice Ak ks.length ck) := (blk_cell hh 1).trans rfl
            have z2 : wr.cell? ⟨nb, 2, none⟩ = some (.slice Ai (rangeI q.length j).length ci) := (blk_cell hh 2).trans rfl
            have HH := Aside0.mk hh
            have HRk := Aside0.mk hRk
            have HRi := Aside0.mk hRi
            have HRo := Aside0.mk hRo
            have HON := Aside0.mk hown
            have HEL2 := Aside0.mk hel
            have HB := Aside0.mk hB
            clear hh hRk hRi hRo hown hel hB HI
            cases gk with
            | zero =>
              obtain rfl : j = cs.length := by omega
              have b2 : decide (((cs.length : Nat) : Int) < ((cs.length : Nat) : Int)) = false := decide_eq_false (by omega)
              rw [List.take_length] at HEL2
              have HM2 : Aside0 (k43.M wr w.heap.size (fun k => s0 ≤ k) ⟨false, ks, rangeI q.length cs.length⟩ [.bool false, .slice Ak ks.length ck, .slice Ai (rangeI q.length cs.length).length ci]) := ⟨PTreeRanks.k43_mkM _ _ _ ⟨false, ks, rangeI q.length cs.length⟩ (Kd.R_mono HRk.out (fun k hk => hk.1)) (Kd.R_mono HRi.out (fun k hk => by omega))⟩
              have HLT : Aside0 (∀ k, s0 ≤ k → True ∧ some k ≠ u4.ownBlock) := ⟨fun k hk => ⟨trivial, fun e => by have := (Kd.S_R HRo.out).1 k e.symm; omega⟩⟩
              have HL9 : Aside0 (out.length ≤ 1099511627776) := ⟨by have := HNR.out; have := HNN.out; omega⟩
              go_wp2_with ((with_reducible refine gate_builtin (b := .append) (xs := #[.tmp 70, .tmp 72]) rfl ?_); at_builtin; refine Kd.S_append k43 (w0 := w) w.heap.size rfl (.tmp 70) (.tmp 72) 37 43 (.agg #[.bool false, .slice none 0 0, .slice none 0 0]) 56 rfl Try.underlying37 info43 rfl (by decide) (by omega) u4 out (⟨false, ks, rangeI q.length cs.length⟩ : S43) [.bool false, .slice Ak ks.length ck, .slice Ai (rangeI q.length cs.length).length ci] (fun _ => True) (fun k => s0 ≤ k) rfl rfl ?aP HLT.out ?aF ?aO ?aB ?aS ?aL ?_; (case aP => exact HM2.out); (case aF => exact fun _ _ => trivial); (case aO => exact Kd.S_mono HRo.out (fun k hk => ⟨trivial, by omega⟩)); (case aB => exact HB.out); (case aS => exact HB.out.size); (case aL => have := HL9.out; omega); intro v1 w3 ho hb hg hat; have HO := Aside0.mk ho; have HB3 := Aside0.mk hb; have HG3 := Aside0.mk hg; clear ho hb hg hat)
              have HON3 := Aside0.mk (own_other HON.out HG3.out (by obtain ⟨inner, hi⟩ := Kd.S_own HRo.out; exact own_differ' HON.out hi (by decide)))
              go_roundg g
              case measure => omega
              case rel =>
                have eq' : (q ++ cs.map fun c => (⟨d, c⟩ : AT)).length = q.length + cs.length := by rw [List.length_append, List.length_map]
                refine ⟨q ++ cs.map (fun c => (⟨d, c⟩ : AT)), out ++ [⟨false, ks, rangeI q.length cs.length⟩], ?_, ?_, ?_, ?_, ⟨⟨⟨vs', ?_, HEL2.out⟩, HO.out, HB3.out⟩⟩⟩
                · first | rfl | (simp; done) | (congr 1; simp; done)
                · exact HF2
                · exact ⟨by rw [List.length_append, eq']; show out.length + 1 ≤ _; omega⟩
                · refine ⟨fun t ht => ?_⟩
                  rcases List.mem_append.1 ht with ht | ht
                  · exact HG.out t ht
                  · exact HGK.out t ht
                · rw [eq']
                  exact HON3.out
            | succ gk =>
              have hj : j < cs.length := by omega
              have b2 : decide (((j : Nat) : Int) < ((cs.length : Nat) : Int)) = true := decide_eq_true (by omega)
              have q1 : ((j : Nat) : Int) < ((cs.length : Nat) : Int) := by omega
              have q0 : (0 : Int) ≤ ((j : Nat) : Int) := by omega
              obtain ⟨ad2, vj, rfl, hcj, hKj⟩ := C_kid HA'.out j hj
              obtain ⟨tj, bj, rfl⟩ := NK_form hKj
              have HKj := Aside0.mk hKj
              have y2 := pw_cell_below HB.out hcj
              clear hcj hKj
              replace q0 := eq_true q0
              replace q1 := eq_true q1
              have HLI : Aside0 ((rangeI q.length j).length = j) := ⟨by unfold rangeI; simp⟩
              have HIB : Aside0 (∀ k, (Value.slice Ai (rangeI q.length j).length ci).ownBlock = some k → nb < k) := ⟨HRi.out.1⟩
              have HMX : Aside0 (q.length + j ≤ 1099511628800) := ⟨by have := HNR.out; have := HNN.out; omega⟩
              go_wp2_with (first
                | ((with_reducible refine gate_builtin (b := .append) (xs := #[.tmp 59, .tmp 62]) rfl ?_); at_builtin; refine Kd.R_append (Kd.int .i64) (w0 := w) w.heap.size rfl (.tmp 59) (.tmp 62) 41 3 (.int .i64 0) 8 rfl Try.underlying41 info3 rfl (by decide) (by omega) (.slice Ai (rangeI q.length j).length ci) (rangeI q.length j) ((q.length + j : Nat) : Int) [.int .i64 ((q.length + j : Nat) : Int)] (fun k => nb < k) (fun k => False) rfl rfl ?aP (fun k hk => hk.elim) ?aF ?aO ?aB ?aS ?aL ?_; (case aP => rfl); (case aF => have := blk_lt HH.out; exact fun k hk => by omega); (case aO => exact HRi.out); (case aB => exact HB.out); (case aS => exact HB.out.size); (case aL => have := HLI.out; omega); intro v1 w3 ho hb hg hat; rw [← rangeI_succ] at ho; obtain ⟨A1, c1, ev1, _, _⟩ := Kd.R_reads ho; subst ev1; have hh3 := (hg.block nb (blk_lt HH.out) (fun e => by have := HIB.out nb e.symm; omega)).trans HH.out; have z3 : w3.cell? ⟨nb, 2, none⟩ = some (.slice Ai (rangeI q.length j).length ci) := (blk_cell hh3 2).trans rfl; have zf : w3.frozen? ⟨nb, 2, none⟩ = false := blk_frozen hh3 2; have HO := Aside0.mk ho; have HB3 := Aside0.mk hb; have HG3 := Aside0.mk hg; have HH3 := Aside0.mk hh3; clear ho hb hg hat hh3; have HG4 : Aside0 (w3.grownBy (w3.setCell ⟨nb, 2, none⟩ (.slice A1 (rangeI q.length (j + 1)).length c1)) (some nb)) := ⟨gb_set (grownBy_refl _ _) _ _⟩; have HON3 := Aside0.mk (own_other (own_other HON.out HG3.out (by obtain ⟨inner, hi⟩ := Kd.R_own HRi.out; exact own_differ' HON.out hi (by decide))) HG4.out (own_off (own_other HON.out HG3.out (by obtain ⟨inner, hi⟩ := Kd.R_own HRi.out; exact own_differ' HON.out hi (by decide))) HH3.out (by decide))); have HB4 := Aside0.mk (HB3.out.trans (grownBy_below HG4.out HB3.out.size (fun k e => by injection e with e; omega))))
                | ((with_reducible refine gate_builtin (b := .append) (xs := #[.tmp 65, .tmp 67]) rfl ?_); at_builtin; refine print_append_cells (w0 := w) w.heap.size rfl (.tmp 65) (.tmp 67) 79 69 .nilIface 1 16 rfl Try.underlying79 info69 rfl (by decide) (by decide) (.slice A3' (q.length + j) c3') (q.length + j) vs' [.iface tj (.pointer (some ⟨bj, 0, none⟩))] rfl ?ax rfl ?a1 ?aO ?aB ?aS ?aL ?_; (case ax => first | rfl | (simp; done) | (simp [go_sem]; done)); (case a1 => intro u hu; rw [List.mem_singleton.1 hu]; rfl); (case aO => exact HON3.out); (case aB => exact HB4.out); (case aS => exact HB4.out.size); (case aL => have := HMX.out; omega); intro v5 w5 ho5 hb5 hg5 hat5; have HO5 := Aside0.mk ho5; have HB5 := Aside0.mk hb5; have HG5 := Aside0.mk hg5; clear ho5 hb5 hg5 hat5))
              have HQ5 : Aside0 (QEl w (q ++ (cs.take (j + 1)).map fun c => (⟨d, c⟩ : AT)) (vs' ++ [.iface tj (.pointer (some ⟨bj, 0, none⟩))])) := ⟨by
                rw [List.take_succ_eq_append_getElem hj, List.map_append, ← List.append_assoc]
                exact Elems.append HEL2.out (Elems.one (R := fun (t : AT) v => (NK t.1).K w t.2 [v]) HKj.out)⟩
              have hk4 : k43.E = [9, 3] := rfl
              have HI5 : Aside0 (KidInv w q out s0 nb ks d cs Ak ck u4 (j + 1) v5 w5) := by
                have a1 := Kd.R_far (Kd.R_grown HRk.out HG3.out (fun k hk e => by have := HIB.out k e.symm; omega)) (p := ⟨nb, 2, none⟩) (fun k hk e => by have e : k = nb := e; omega) (.slice A1 (rangeI q.length (j + 1)).length c1)
                have a2 := Kd.S_far (Kd.S_grown HRo.out HG3.out (fun k hk e => by have := HIB.out k e.symm; omega)) (p := ⟨nb, 2, none⟩) (fun k hk e => by have e : k = nb := e; omega) (.slice A1 (rangeI q.length (j + 1)).length c1)
                have a3 := Kd.R_far HO.out (p := ⟨nb, 2, none⟩) (fun k hk e => by have e : k = nb := e; omega) (.slice A1 (rangeI q.length (j + 1)).length c1)
                have a4 := (blk_set HH3.out 2 (.slice A1 (rangeI q.length (j + 1)).length c1)).trans rfl
                refine ⟨_, blk_kept HON3.out a4 (by decide) HG5.out, R_apart a1 HON3.out (by decide) HG5.out, R_apart a3 HON3.out (by decide) HG5.out, S_apart a2 HON3.out (by decide) HG5.out, ⟨_, HO5.out, HQ5.out⟩, HB5.out⟩
              go_roundg gk
              case measure => omega
              case rel => exact ⟨j + 1, by omega, by first | rfl | (simp; done), HI5⟩
      · have b1 : decide (((out.length : Nat) : Int) < ((q.length : Nat) : Int)) = false := decide_eq_false (by omega)
        have hf := HF.out
        unfold bfs at hf
        rw [List.getElem?_eq_none (by omega)] at hf
        injection hf with hf
        subst hf
        have HRo := Aside0.mk hRo
        have HB := Aside0.mk hB
        clear hRo hB hown hel HI
        go_wp2
        go_ret
        exact ⟨_, rfl, HRo.out, HB.out⟩
end Go.Proofs.Ytjabcdfbncglnaa
namespace Go.Proofs.Ytjabcdfbncglnaa
open Go.RowKit Go.Proofs.YtjabcdfbncglnaaW.PrintWords Go.Proofs.YtjabcdfbncglnaaW.PrintLast Go.Proofs.YtjabcdfbncglnaaW.PrintMore
open PTreeRanks (S59 k59 z59 S43 k43 z43)
set_option linter.unusedVariables false
set_option linter.unusedSimpArgs false

/-- How many nodes a tree has. -/
def nodesN : (d : Nat) → T d → Nat
  | 0, _ => 1
  | d + 1, t => 1 + (t.2.map (nodesN d)).sum
def nodesA (t : AT) : Nat := nodesN t.1 t.2
theorem nodesA_kids (t : AT) : nodesA t = 1 + ((kidsA t).map nodesA).sum := by
  obtain ⟨d, t⟩ := t
  cases d with
  | zero => rfl
  | succ d =>
    show 1 + (t.2.map (nodesN d)).sum = 1 + ((t.2.map fun c => (⟨d, c⟩ : AT)).map nodesA).sum
    rw [List.map_map]
    rfl

theorem bfs_ok : ∀ (g : Nat) (q : List AT) (i : Nat) (out : List S43), i ≤ q.length → ((q.drop i).map nodesA).sum < g → ∃ r, bfs g q i out = some r ∧ r.length = out.length + ((q.drop i).map nodesA).sum
  | 0, q, i, out, _, h => by omega
  | g + 1, q, i, out, hi, h => by
    unfold bfs
    rcases Nat.lt_or_ge i q.length with hlt | hge
    · rw [List.getElem?_eq_getElem hlt]
      have e : ((q.drop i).map nodesA).sum = 1 + (((q ++ kidsA q[i]).drop (i + 1)).map nodesA).sum := by
        rw [List.drop_eq_getElem_cons hlt, List.map_cons, List.sum_cons, nodesA_kids, List.drop_append_of_le_length (by omega), List.map_append, List.sum_append]
        omega
      obtain ⟨r, h1, h2⟩ := bfs_ok g (q ++ kidsA q[i]) (i + 1) (out ++ [nodeOf q[i] q.length]) (by rw [List.length_append]; omega) (by omega)
      refine ⟨r, h1, ?_⟩
      rw [h2, e, List.length_append]
      simp
      omega
    · rw [List.getElem?_eq_none hge]
      refine ⟨out, rfl, ?_⟩
      rw [List.drop_eq_nil_of_le hge]
      rfl

theorem last_get {α : Type} {out : List α} {i : Nat} (x : α) (h : out.length = i) : (out ++ [x])[i]? = some x := by
  subst h
  rw [List.getElem?_append_right (Nat.le_refl _), Nat.sub_self]
  rfl
/-- What the walk through the queue leaves: a longer queue, each node of it told. -/
theorem bfs_spec : ∀ {g : Nat} {q : List AT} {i : Nat} {out r : List S43}, bfs g q i out = some r → out.length = i → i ≤ q.length →
    ∃ Q : List AT, r.length = Q.length ∧ (∀ (j : Nat) (t : AT), q[j]? = some t → Q[j]? = some t) ∧ (∀ (j : Nat) (x : S43), out[j]? = some x → r[j]? = some x) ∧
      ∀ (j : Nat) (t : AT), i ≤ j → Q[j]? = some t → ∃ n, 0 < n ∧ r[j]? = some (nodeOf t n) ∧ ∀ m c, (kidsA t)[m]? = some c → Q[n + m]? = some c
  | 0, q, i, out, r, h, _, _ => by cases h
  | g + 1, q, i, out, r, h, h1, h2 => by
    unfold bfs at h
    rcases Nat.lt_or_ge i q.length with hlt | hge
    · rw [List.getElem?_eq_getElem hlt] at h
      obtain ⟨Q, e1, e2, e3, e4⟩ := bfs_spec h (by rw [List.length_append, h1]; rfl) (by rw [List.length_append]; omega)
      have eq1 : ∀ j t, q[j]? = some t → Q[j]? = some t := fun j t hj => e2 j t (by rw [List.getElem?_append_left (List.getElem?_eq_some_iff.1 hj).1]; exact hj)
      refine ⟨Q, e1, eq1, fun j x hj => e3 j x (by rw [List.getElem?_append_left (List.getElem?_eq_some_iff.1 hj).1]; exact hj), ?_⟩
      intro j t hj hQ
      rcases Nat.lt_or_ge i j with h3 | h3
      · exact e4 j t h3 hQ
      · obtain rfl : j = i := by omega
        have h4 := eq1 j q[j] (List.getElem?_eq_getElem hlt)
        rw [h4] at hQ
        injection hQ with hQ
        subst hQ
        refine ⟨q.length, by omega, e3 j _ (last_get _ h1), ?_⟩
        intro m c hm
        exact e2 _ c (by rw [List.getElem?_append_right (by omega), Nat.add_sub_cancel_left]; exact hm)
    · rw [List.getElem?_eq_none hge] at h
      injection h with h
      subst h
      obtain rfl : i = q.length := by omega
      refine ⟨q, by omega, fun j t h => h, fun j x h => h, ?_⟩
      intro j t hj hQ
      have := (List.getElem?_eq_some_iff.1 hQ).1
      omega

/-- A tree lies at a place of the list of nodes. -/
def Laid (r : List S43) : (d : Nat) → T d → Nat → Prop
  | 0, l, i => r[i]? = some ⟨true, List.map S59.f0 l, []⟩
  | d + 1, t, i => ∃ n, 0 < n ∧ r[i]? = some ⟨false, t.1, rangeI n t.2.length⟩ ∧ ∀ (m : Nat) c, t.2[m]? = some c → Laid r d c (n + m)

theorem laid_of_spec {Q : List AT} {r : List S43} (h : ∀ j t, 0 ≤ j → Q[j]? = some t → ∃ n, 0 < n ∧ r[j]? = some (nodeOf t n) ∧ ∀ m c, (kidsA t)[m]? = some c → Q[n + m]? = some c) : ∀ (d : Nat) (t : T d) (j : Nat), Q[j]? = some ⟨d, t⟩ → Laid r d t j
  | 0, l, j, hj => by
    obtain ⟨n, _, h1, _⟩ := h j _ (Nat.zero_le _) hj
    exact h1
  | d + 1, t, j, hj => by
    obtain ⟨n, h0, h1, h2⟩ := h j _ (Nat.zero_le _) hj
    refine ⟨n, h0, h1, fun m c hm => laid_of_spec h d c (n + m) (h2 m ⟨d, c⟩ ?_)⟩
    show (t.2.map fun c => (⟨d, c⟩ : AT))[m]? = _
    rw [List.getElem?_map, hm]
    rfl
theorem bfs_laid {g : Nat} {t : AT} {r : List S43} (h : bfs g [t] 0 [] = some r) : Laid r t.1 t.2 0 := by
  obtain ⟨Q, h1, h2, h3, h4⟩ := bfs_spec h rfl (Nat.zero_le _)
  exact laid_of_spec h4 t.1 t.2 0 (h2 0 t rfl)

theorem rd43 (r : List S43) (i : Nat) (h : i < r.length) : PTreeRanks.rd_T43 r (i : Int) = r[i] := by
  unfold PTreeRanks.rd_T43
  rw [Int.toNat_natCast, List.getD_eq_getElem?_getD, List.getElem?_eq_getElem h]
  rfl

open PTreeRanks in
/-- 'ordered' along the kids of one node. -/
theorem ordered_kids {r : List S43} {i n N : Nat} (hi : i < r.length) (hk : r[i].f2 = rangeI n N) (hn : i < n) (hN : n + N ≤ r.length) (hr : r.length ≤ 1099511627776) (k0 : Nat) (hk0 : keystoneref05_ordered.l0 k0 r ((n + N : Nat) : Int) ((i + 1 : Nat) : Int) = some true) :
    ∀ (m j : Nat), j + m = N → ∃ k, keystoneref05_ordered.l1 k r ((n + j : Nat) : Int) (i : Int) (j : Int) = some true
  | 0, j, hm => by
    obtain rfl : j = N := by omega
    refine ⟨k0 + 1, ?_⟩
    unfold keystoneref05_ordered.l1
    rw [if_pos (by omega), if_pos (by omega), rd43 r i hi, hk]
    have e : (rangeI n j).length = j := by unfold rangeI; simp
    rw [if_neg (by rw [e]; omega), wrap_small _ (by omega) (by omega)]
    exact hk0
  | m + 1, j, hm => by
    obtain ⟨k, h⟩ := ordered_kids hi hk hn hN hr k0 hk0 m (j + 1) (by omega)
    refine ⟨k + 1, ?_⟩
    unfold keystoneref05_ordered.l1
    rw [if_pos (by omega), if_pos (by omega), rd43 r i hi, hk]
    have e : (rangeI n N).length = N := by unfold rangeI; simp
    have e2 : rd (rangeI n N) (j : Int) = ((n + j : Nat) : Int) := by
      unfold rd rangeI
      rw [Int.toNat_natCast, List.getD_eq_getElem?_getD, List.getElem?_map, List.getElem?_range (by omega)]
      rfl
    rw [if_pos (by rw [e]; omega), if_pos (by omega), if_pos e2, if_neg (by omega), if_neg (by omega), wrap_small _ (by omega) (by omega), wrap_small _ (by omega) (by omega)]
    exact h

open PTreeRanks in
theorem ordered_bfs : ∀ {g : Nat} {q : List AT} {i : Nat} {out r : List S43}, bfs g q i out = some r → out.length = i → i ≤ q.length → r.length ≤ 1099511627776 → ∃ k, keystoneref05_ordered.l0 k r ((q.length : Nat) : Int) (i : Int) = some true
  | 0, q, i, out, r, h, _, _, _ => by cases h
  | g + 1, q, i, out, r, h, h1, h2, hr => by
    have hq := bfs_length h h1 h2
    obtain ⟨Q, e1, e2, e3, e4⟩ := bfs_spec h h1 h2
    unfold bfs at h
    rcases Nat.lt_or_ge i q.length with hlt | hge
    · rw [List.getElem?_eq_getElem hlt] at h
      obtain ⟨k0, hk0⟩ := ordered_bfs h (by rw [List.length_append, h1]; rfl) (by rw [List.length_append]; omega) hr
      have hq2 := bfs_length h (by rw [List.length_append, h1]; rfl) (by rw [List.length_append]; omega)
      rw [List.length_append] at hk0 hq2
      obtain ⟨Q', f1, f2, f3, f4⟩ := bfs_spec h (by rw [List.length_append, h1]; rfl) (by rw [List.length_append]; omega)
      have hri : r[i]? = some (nodeOf q[i] q.length) := f3 i _ (last_get _ h1)
      obtain ⟨hlr, hre⟩ := List.getElem?_eq_some_iff.1 hri
      have hf2 : r[i].f2 = rangeI q.length (kidsA q[i]).length := by
        rw [hre]
        rcases q[i] with ⟨d, t⟩
        cases d with
        | zero => rfl
        | succ d => show rangeI q.length t.2.length = _; unfold kidsA; rw [List.length_map]
      obtain ⟨k, hk⟩ := ordered_kids hlr hf2 hlt hq2 hr k0 hk0 (kidsA q[i]).length 0 (by omega)
      refine ⟨k + 1, ?_⟩
      unfold keystoneref05_ordered.l0
      rw [if_pos (by omega)]
      exact hk
    · rw [List.getElem?_eq_none hge] at h
      injection h with h
      subst h
      refine ⟨1, ?_⟩
      unfold keystoneref05_ordered.l0
      rw [if_neg (by omega)]
      obtain rfl : i = q.length := by omega
      have : ((q.length : Nat) : Int) = ((out.length : Nat) : Int) := by omega
      rw [this]
      simp
end Go.Proofs.Ytjabcdfbncglnaa
namespace Go.Proofs.Ytjabcdfbncglnaa
open Go.RowKit Go.Proofs.YtjabcdfbncglnaaW.PrintWords Go.Proofs.YtjabcdfbncglnaaW.PrintLast Go.Proofs.YtjabcdfbncglnaaW.PrintMore
open PTreeRanks (S59 k59 z59 S43 k43 z43)
set_option linter.unusedVariables false
set_option linter.unusedSimpArgs false

set_option maxHeartbeats 4000000 in
set_option maxRecDepth 100000 in
theorem holds_calls (lo hi : ByteArray) (b1 b2 : Bool) (k : ByteArray) (w : World):
    Calls Try.prog 55 #[.agg #[.string lo, .string hi, .bool b1, .bool b2], .string k] w fun e w' => e = .returned (.bool ((!b1 || !blt k lo) && (!b2 || blt k hi))) ∧ Below w.heap.size w w' := by
  have hu96 := Try.underlying96
  have hge := PTreeRanks.run_geq
  unfold blt
  cases b1 <;> cases b2 <;> cases h1 : Op.bytesLess k.toList lo.toList <;> cases h2 : Op.bytesLess k.toList hi.toList
  all_goals
    go_enter Try.func55, Try.ntmps55
    go_wp2
    go_ret
    exact ⟨rfl, below_mk (Below.refl _ _) _⟩

theorem half_calls (n : Nat) (h : n ≤ 1000) (w : World) : Calls Try.prog 56 #[.int .i64 (n : Nat)] w fun e w' => e = .returned (.int .i64 ((n + 1) / 2 : Nat)) ∧ Drawn0 w w' := by
  refine PTreeRanks.keystoneref05_half.calls _ _ w ?_
  unfold PTreeRanks.keystoneref05_half.f
  rw [wrap_small ((n : Int) + 1) (by omega) (by omega)]
  have e : Int.tdiv ((n : Int) + 1) 2 = (((n + 1) / 2 : Nat) : Int) := by
    rw [Int.tdiv_eq_ediv_of_nonneg (by omega)]
    omega
  rw [e, wrap_small _ (by omega) (by omega)]

set_option maxHeartbeats 4000000 in
set_option maxRecDepth 100000 in
theorem filled_leaf (F order nk ck ci : Nat) (Ak Ai : Option Addr) (root : Bool) (w : World) (h3 : 3 ≤ order) (h4 : order ≤ 64) (x1 : w.cell? ⟨F, 1, none⟩ = some (.int .i64 (order : Nat))) (hk : nk + 1 ≤ order) (hr : root = true ∨ order / 2 ≤ nk) :
    Calls Try.prog 54 #[.pointer (some ⟨F, 0, none⟩), .agg #[.bool true, .slice Ak nk ck, .slice Ai 0 ci], .bool root] w fun e w' => e = .returned (.bool true) ∧ Below w.heap.size w w' := by
  have hu43 := Try.underlying43
  have HH : Aside0 (∀ W, Calls Try.prog 56 #[.int .i64 ((order : Nat) - 1 : Int)] W fun e w' => e = .returned (.int .i64 (order / 2 : Nat)) ∧ Drawn0 W w') := ⟨fun W => by
    have := half_calls (order - 1) (by omega) W
    rw [show order - 1 + 1 = order by omega, show ((order - 1 : Nat) : Int) = (order : Int) - 1 by omega] at this
    exact this⟩
  have e1 : decide (((nk : Nat) : Int) ≤ ((order : Nat) : Int) - 1) = true := decide_eq_true (by omega)
  have ew : wrap64 (((order : Nat) : Int) - 1) = ((order : Nat) : Int) - 1 := wrap_small _ (by omega) (by omega)
  have x2 : (w.alloc (.cells #[.bool true, .slice Ak nk ck, .slice Ai 0 ci] 43)).cell? ⟨F, 1, none⟩ = some (.int .i64 (order : Nat)) := pw_cell_below (below_mk (Below.refl _ _) _) x1
  have hB := Aside0.mk (below_mk (Below.refl w.heap.size w) (.cells #[.bool true, .slice Ak nk ck, .slice Ai 0 ci] 43))
  cases root with
  | true =>
    go_enter Try.func54, Try.ntmps54
    go_wp2
    go_quiet (fail)
    go_wp2
    go_ret
    exact ⟨by simp <;> omega, pw_below_drewN hB.out _⟩
  | false =>
    have hk2 : order / 2 ≤ nk := by
      rcases hr with h | h
      · cases h
      · exact h
    have e2 : decide (((order / 2 : Nat) : Int) ≤ ((nk : Nat) : Int)) = true := decide_eq_true (by omega)
    go_enter Try.func54, Try.ntmps54
    go_wp2
    go_quiet ((go_at_call 56; exact quiet_D (HH.out _)))
    go_wp2
    go_ret
    exact ⟨by simp <;> omega, pw_below_drewN hB.out _⟩

set_option maxHeartbeats 4000000 in
set_option maxRecDepth 100000 in
theorem filled_inner (F order nk ck ci : Nat) (Ak Ai : Option Addr) (root : Bool) (w : World) (h3 : 3 ≤ order) (h4 : order ≤ 64) (x1 : w.cell? ⟨F, 1, none⟩ = some (.int .i64 (order : Nat))) (hk : nk + 1 ≤ order) (hr : (if root then 2 else (order + 1) / 2) ≤ nk + 1) :
    Calls Try.prog 54 #[.pointer (some ⟨F, 0, none⟩), .agg #[.bool false, .slice Ak nk ck, .slice Ai (nk + 1) ci], .bool root] w fun e w' => e = .returned (.bool true) ∧ Below w.heap.size w w' := by
  have hu43 := Try.underlying43
  have x2 : (w.alloc (.cells #[.bool false, .slice Ak nk ck, .slice Ai (nk + 1) ci] 43)).cell? ⟨F, 1, none⟩ = some (.int .i64 (order : Nat)) := pw_cell_below (below_mk (Below.refl _ _) _) x1
  have hB := Aside0.mk (below_mk (Below.refl w.heap.size w) (.cells #[.bool false, .slice Ak nk ck, .slice Ai (nk + 1) ci] 43))
  have HH := Aside0.mk (half_calls order (by omega) (w.alloc (.cells #[.bool false, .slice Ak nk ck, .slice Ai (nk + 1) ci] 43)))
  have e1 : decide ((((nk + 1 : Nat)) : Int) ≤ ((order : Nat) : Int)) = true := decide_eq_true (by omega)
  have e1' : decide (((nk : Nat) : Int) + 1 ≤ ((order : Nat) : Int)) = true := decide_eq_true (by omega)
  have ew : wrap64 (((nk : Nat) : Int) + 1) = ((nk : Nat) : Int) + 1 := wrap_small _ (by omega) (by omega)
  cases root with
  | true =>
    have hk2 : 2 ≤ nk + 1 := hr
    have e2 : decide ((2 : Int) ≤ ((nk : Nat) : Int) + 1) = true := decide_eq_true (by omega)
    go_enter Try.func54, Try.ntmps54
    go_wp2_with fail
    refine HH.out.mono ?_
    rintro e w' ⟨rfl, ⟨n, rfl⟩⟩
    go_wp2
    go_quiet (fail)
    go_wp2
    go_ret
    exact ⟨by simp <;> omega, pw_below_drewN (pw_below_drewN hB.out _) _⟩
  | false =>
    have hk2 : (order + 1) / 2 ≤ nk + 1 := hr
    have e2 : decide ((((order + 1) / 2 : Nat) : Int) ≤ ((nk : Nat) : Int) + 1) = true := decide_eq_true (by omega)
    go_enter Try.func54, Try.ntmps54
    go_wp2_with fail
    refine HH.out.mono ?_
    rintro e w' ⟨rfl, ⟨n, rfl⟩⟩
    go_wp2
    go_quiet (fail)
    go_wp2
    go_ret
    exact ⟨by simp <;> omega, pw_below_drewN (pw_below_drewN hB.out _) _⟩
end Go.Proofs.Ytjabcdfbncglnaa
namespace Go.Proofs.Ytjabcdfbncglnaa
open Go.RowKit Go.Proofs.YtjabcdfbncglnaaW.PrintWords Go.Proofs.YtjabcdfbncglnaaW.PrintLast Go.Proofs.YtjabcdfbncglnaaW.PrintMore
open PTreeRanks (S59 k59 z59 S43 k43 z43)
set_option linter.unusedVariables false
set_option linter.unusedSimpArgs false

def bndV (lo hi : Option ByteArray) : Value := .agg #[.string (lo.getD ⟨#[]⟩), .string (hi.getD ⟨#[]⟩), .bool lo.isSome, .bool hi.isSome]
def bndC (lo hi : Option ByteArray) : Array Value := #[.string (lo.getD ⟨#[]⟩), .string (hi.getD ⟨#[]⟩), .bool lo.isSome, .bool hi.isSome]
theorem inR_holds {lo hi : Option ByteArray} {k : ByteArray} (h : inR lo hi k) : ((!lo.isSome || !blt k (lo.getD ⟨#[]⟩)) && (!hi.isSome || blt k (hi.getD ⟨#[]⟩))) = true := by
  have h1 : (!lo.isSome || !blt k (lo.getD ⟨#[]⟩)) = true := by
    cases lo with
    | none => rfl
    | some l => have := h.1 l rfl; show (!true || !blt k l) = true; rw [this]; rfl
  have h2 : (!hi.isSome || blt k (hi.getD ⟨#[]⟩)) = true := by
    cases hi with
    | none => rfl
    | some l => have := h.2 l rfl; show (!true || blt k l) = true; rw [this]; rfl
  rw [h1, h2]
  rfl

theorem WK_get {α : Type} {P : Option ByteArray → Option ByteArray → α → Prop} : ∀ {lo hi : Option ByteArray} {ks : List ByteArray} {cs : List α}, WK P lo hi ks cs → ∀ (i : Nat) (h : i < cs.length), P (if i = 0 then lo else ks[i - 1]?) (if i < ks.length then ks[i]? else hi) cs[i]
  | lo, hi, [], [c], h, 0, _ => h
  | _, _, [], [c], _, i + 1, h => by simp at h
  | _, _, [], [], h, _, _ => h.elim
  | _, _, [], _ :: _ :: _, h, _, _ => h.elim
  | _, _, _ :: _, [], h, _, _ => h.elim
  | lo, hi, k :: ks, c :: cs, h, 0, _ => h.1
  | lo, hi, k :: ks, c :: cs, h, i + 1, hi' => by
    have := WK_get h.2 i (by simpa using hi')
    rw [if_neg (Nat.succ_ne_zero i)]
    have e1 : (if i = 0 then some k else ks[i - 1]?) = (k :: ks)[i + 1 - 1]? := by
      cases i with
      | zero => rfl
      | succ i => rfl
    have e2 : (if i < ks.length then ks[i]? else hi) = (if i + 1 < (k :: ks).length then (k :: ks)[i + 1]? else hi) := by
      rw [List.length_cons]
      by_cases h9 : i < ks.length
      · rw [if_pos h9, if_pos (by omega)]; rfl
      · rw [if_neg h9, if_neg (by omega)]
    rw [e1, e2] at this
    exact this

/-- Only block F, rows of strings and new blocks turn. -/
def Keep9 (F : Nat) (W W' : World) : Prop := W.heap.size ≤ W'.heap.size ∧ ∀ (g t : Nat) (c : Array Value), g ≠ F → t ≠ 9 → W.heap[g]? = some (.cells c t (0, 0)) → W'.heap[g]? = some (.cells c t (0, 0))
theorem Keep9.refl (F : Nat) (W : World) : Keep9 F W W := ⟨Nat.le_refl _, fun _ _ _ _ _ h => h⟩
theorem Keep9.trans {F : Nat} {A B C : World} (h : Keep9 F A B) (k : Keep9 F B C) : Keep9 F A C := ⟨Nat.le_trans h.1 k.1, fun g t c h1 h2 h3 => k.2 g t c h1 h2 (h.2 g t c h1 h2 h3)⟩
theorem Keep9.below {F : Nat} {A B C : World} (h : Keep9 F A B) (k : Below B.heap.size B C) : Keep9 F A C := h.trans ⟨k.size, fun g t c _ _ h => (k.block g (blk_lt h)).trans h⟩
theorem Keep9.row {F : Nat} {A B C : World} (h : Keep9 F A B) {v : Value} {base n : Nat} {xs : List Value} (ho : B.ownsRow base 9 1 v n xs) (k : B.grownBy C v.ownBlock) : Keep9 F A C :=
  h.trans ⟨k.size, fun g t c _ h2 h => blk_kept ho h (fun e => h2 e.symm) k⟩
theorem Keep9.cell {F : Nat} {A B C : World} (h : Keep9 F A B) (k : B.grownBy C (some F)) : Keep9 F A C :=
  h.trans ⟨k.size, fun g t c h1 _ h => (k.block g (blk_lt h) (fun e => by injection e with e; exact h1 e)).trans h⟩

/-- The cells of the document's form. -/
def FormC (An : Option Addr) (n cn order dep : Nat) (kv : Value) : Array Value := #[.slice An n cn, .int .i64 (order : Nat), .int .i64 (dep : Nat), kv, .int .i64 0, .bool true]

/-- What stands of the form in block F. -/
def FormI (w0 : World) (F : Nat) (An : Option Addr) (n cn order : Nat) (dep : Nat) (kv : Value) (acc : List ByteArray) (W : World) : Prop :=
  W.heap[F]? = some (.cells (FormC An n cn order dep kv) 93 (0, 0)) ∧ Kd.string.R 9 W w0.heap.size (fun k => k ≠ F) kv acc ∧ Below w0.heap.size w0 W

theorem FormI.below {w0 W W' : World} {F : Nat} {An : Option Addr} {n cn order dep : Nat} {kv : Value} {acc : List ByteArray} (h : FormI w0 F An n cn order dep kv acc W) (hb : Below W.heap.size W W') : FormI w0 F An n cn order dep kv acc W' :=
  ⟨(hb.block _ (blk_lt h.1)).trans h.1, Kd.R_below h.2.1 hb, h.2.2.trans (hb.mono h.2.2.size)⟩

/-- node goes through a tree of depth d that lies at a place. -/
def NodeOk (w0 : World) (F : Nat) (An : Option Addr) (cn order : Nat) (r : List S43) (d : Nat) : Prop :=
  ∀ (t : T d) (i depth : Nat) (lo hi : Option ByteArray) (dep : Nat) (kv : Value) (acc : List ByteArray) (W : World), Laid r d t i → WF order d (if i = 0 then (if d = 0 then 0 else 2) else minOf order d) lo hi t →
    FormI w0 F An r.length cn order dep kv acc W → (dep = 0 ∨ dep = depth + d) → 0 < depth → depth + d ≤ 1099511627776 → acc.length + size d t ≤ 1099511627776 →
    Calls Try.prog 38 #[.pointer (some ⟨F, 0, none⟩), .int .i64 (i : Nat), .int .i64 (depth : Nat), bndV lo hi] W fun e W' =>
      e = .returned (.tuple #[]) ∧ Keep9 F W W' ∧ ∃ kv', FormI w0 F An r.length cn order (depth + d) kv' (acc ++ keysOf (toList d t)) W'
end Go.Proofs.Ytjabcdfbncglnaa
namespace Go.Proofs.Ytjabcdfbncglnaa
open Go.RowKit Go.Proofs.YtjabcdfbncglnaaW.PrintWords Go.Proofs.YtjabcdfbncglnaaW.PrintLast Go.Proofs.YtjabcdfbncglnaaW.PrintMore
open PTreeRanks (S59 k59 z59 S43 k43 z43)
set_option linter.unusedVariables false
set_option linter.unusedSimpArgs false

theorem nn1 {m n : Nat} (h : m + 1 < n) : (0 : Int) ≤ (m : Int) + 1 ∧ (m : Int) + 1 < (n : Int) := by omega

/-- What stands within one node. -/
def NodeI (w0 : World) (F : Nat) (An : Option Addr) (n cn order : Nat) (cb nb : Nat) (lo hi : Option ByteArray) (lf : Bool) (Ak : Option Addr) (nk ck : Nat) (Ai : Option Addr) (ni ci : Nat) (W0 : World) (dep : Nat) (kv : Value) (acc : List ByteArray) (W : World) : Prop :=
  W.heap[cb]? = some (.cells (bndC lo hi) 96 (0, 0)) ∧ W.heap[nb]? = some (.cells #[.bool lf, .slice Ak nk ck, .slice Ai ni ci] 43 (0, 0)) ∧ FormI w0 F An n cn order dep kv acc W ∧ Keep9 F W0 W ∧ F < cb ∧ cb < nb

theorem NodeI.below {w0 : World} {F : Nat} {An : Option Addr} {n cn order cb nb : Nat} {lo hi : Option ByteArray} {lf : Bool} {Ak : Option Addr} {nk ck : Nat} {Ai : Option Addr} {ni ci : Nat} {W0 : World} {dep : Nat} {kv : Value} {acc : List ByteArray} {W W' : World}
    (h : NodeI w0 F An n cn order cb nb lo hi lf Ak nk ck Ai ni ci W0 dep kv acc W) (hb : Below W.heap.size W W') : NodeI w0 F An n cn order cb nb lo hi lf Ak nk ck Ai ni ci W0 dep kv acc W' :=
  ⟨(hb.block _ (blk_lt h.1)).trans h.1, (hb.block _ (blk_lt h.2.1)).trans h.2.1, h.2.2.1.below hb, h.2.2.2.1.below hb, h.2.2.2.2⟩

set_option maxHeartbeats 8000000 in
set_option maxRecDepth 100000 in
theorem node_step {w0 : World} {F : Nat} {An : Option Addr} {cn order : Nat} {r : List S43} (h3 : 3 ≤ order) (h4 : order ≤ 64) (hr : Kd.C k43 w0 An r.length r) (hcn : r.length ≤ cn)
    {i depth d : Nat} {lo hi : Option ByteArray} {dep : Nat} {kv : Value} {acc : List ByteArray} {W : World} (x : S43) (hi1 : i < r.length) (hx : r[i] = x)
    (hI : FormI w0 F An r.length cn order dep kv acc W) (hdep : dep = 0 ∨ dep = depth + d) (hd0 : 0 < depth) (hd1 : depth + d ≤ 1099511627776)
    (hsk : SortedK x.f1) (hrk : ∀ k ∈ x.f1, inR lo hi k) (hnk : x.f1.length ≤ 900) (L : Nat → List ByteArray) (hacc : (acc ++ if x.f0 then x.f1 else (List.range x.f2.length).flatMap L).length ≤ 1099511627776)
    (hwF : w0.heap.size ≤ F) (hleaf : x.f0 = true → d = 0)
    (hkid : x.f0 = false → 0 < x.f1.length ∧ x.f2.length = x.f1.length + 1 ∧ ∀ (m : Nat) (hm : m < x.f2.length) (dep' : Nat) (kv' : Value) (W' : World), FormI w0 F An r.length cn order dep' kv' (acc ++ (List.range m).flatMap L) W' → (dep' = 0 ∨ dep' = depth + d) →
      Calls Try.prog 38 #[.pointer (some ⟨F, 0, none⟩), .int .i64 x.f2[m], .int .i64 ((depth : Nat) + 1 : Int), bndV (if m = 0 then lo else x.f1[m - 1]?) (if m < x.f1.length then x.f1[m]? else hi)] W' fun e W'' => e = .returned (.tuple #[]) ∧ Keep9 F W' W'' ∧ ∃ kv'', FormI w0 F An r.length cn order (depth + d) kv'' (acc ++ (List.range (m + 1)).flatMap L) W'')
    (hfill : ∀ W' A1 c1 A2 c2, W'.cell? ⟨F, 1, none⟩ = some (.int .i64 (order : Nat)) → Calls Try.prog 54 #[.pointer (some ⟨F, 0, none⟩), .agg #[.bool x.f0, .slice A1 x.f1.length c1, .slice A2 x.f2.length c2], .bool (((i : Nat) : Int) == 0)] W' fun e w' => e = .returned (.bool true) ∧ Below W'.heap.size W' w') :
    Calls Try.prog 38 #[.pointer (some ⟨F, 0, none⟩), .int .i64 (i : Nat), .int .i64 (depth : Nat), bndV lo hi] W fun e W' => e = .returned (.tuple #[]) ∧ Keep9 F W W' ∧ ∃ kv', FormI w0 F An r.length cn order (depth + d) kv' (acc ++ if x.f0 then x.f1 else (List.range x.f2.length).flatMap L) W' := by
  have hC1 := Kd.C_below hr hI.2.2
  have p0 : (0 : Int) ≤ ((i : Nat) : Int) := by omega
  have p1 : ((i : Nat) : Int) < ((r.length : Nat) : Int) := by omega
  obtain ⟨ad, A1, c1, A2, c2, rfl, g0, g1, g2, l1, C1, l2, C2⟩ := PTreeRanks.at_T43 hr i p0 p1
  rw [rd43 r i hi1, hx, Int.toNat_natCast] at g0 g1 g2
  rw [rd43 r i hi1, hx] at l1 C1 l2 C2
  replace p0 := eq_true p0
  replace p1 := eq_true p1
  have hF := hI.1
  have hu43 := Try.underlying43
  have hu96 := Try.underlying96
  have hFlt : F < W.heap.size := blk_lt hF
  have hB1 : Below W.heap.size W (W.alloc (.cells #[.string (lo.getD ⟨#[]⟩), .string (hi.getD ⟨#[]⟩), .bool lo.isSome, .bool hi.isSome] 96)) := below_mk (Below.refl _ _) _
  have hI1 := hI.below hB1
  have y0 : (W.alloc (.cells #[.string (lo.getD ⟨#[]⟩), .string (hi.getD ⟨#[]⟩), .bool lo.isSome, .bool hi.isSome] 96)).cell? ⟨F, 0, none⟩ = some (.slice (some ad) r.length cn) := (blk_cell hI1.1 0).trans rfl
  have z0 := pw_cell_below hI1.2.2 g0
  have z1 := pw_cell_below hI1.2.2 g1
  have z2 := pw_cell_below hI1.2.2 g2
  have hI2 : NodeI w0 F (some ad) r.length cn order W.heap.size (W.heap.size + 1) lo hi x.f0 A1 x.f1.length c1 A2 x.f2.length c2 W dep kv acc ((W.alloc (.cells #[.string (lo.getD ⟨#[]⟩), .string (hi.getD ⟨#[]⟩), .bool lo.isSome, .bool hi.isSome] 96)).alloc (.cells #[.bool x.f0, .slice A1 x.f1.length c1, .slice A2 x.f2.length c2] 43)) := by
    refine ⟨?_, ?_, hI1.below (below_mk (Below.refl _ _) _), (Keep9.refl F W).below (below_mk (below_mk (Below.refl _ _) _) _), hFlt, Nat.lt_succ_self _⟩
    · exact (Below.heap_alloc _ _ _ (by simp)).trans (heap_alloc_new W _)
    · have e : W.heap.size + 1 = (W.alloc (.cells #[.string (lo.getD ⟨#[]⟩), .string (hi.getD ⟨#[]⟩), .bool lo.isSome, .bool hi.isSome] 96)).heap.size := by simp
      rw [e]
      exact heap_alloc_new _ _
  have e54 : ((W.alloc (.cells #[.string (lo.getD ⟨#[]⟩), .string (hi.getD ⟨#[]⟩), .bool lo.isSome, .bool hi.isSome] 96)).alloc (.cells #[.bool x.f0, .slice A1 x.f1.length c1, .slice A2 x.f2.length c2] 43)).cell? ⟨F, 1, none⟩ = some (.int .i64 (order : Nat)) := (blk_cell hI2.2.2.1.1 1).trans rfl
  have HF := Aside0.mk (hfill _ A1 c1 A2 c2 e54)
  have HI2 := Aside0.mk hI2
  clear g0 g1 g2 hC1 hF hB1 hI1 hI2 e54 hfill
  unfold bndV
  go_enter Try.func38, Try.ntmps38
  go_wp2_with fail
  refine HF.out.mono ?_
  rintro e w2 ⟨rfl, hb2⟩
  have HI3 := Aside0.mk (HI2.out.below hb2)
  clear HF HI2 hb2 y0 z0 z1 z2
  go_wp2
  go_loopw [9] (fun v9 W' => ∃ j : Nat, v9 = .int .i64 j ∧ j ≤ x.f1.length ∧ Aside0 (NodeI w0 F (some ad) r.length cn order W.heap.size (W.heap.size + 1) lo hi x.f0 A1 x.f1.length c1 A2 x.f2.length c2 W dep kv acc W')) (fun v9 _ => x.f1.length - (RowKit.intOf v9).toNat)
  case atStart => exact ⟨0, rfl, Nat.zero_le _, HI3⟩
  case round =>
    clear HI3
    obtain ⟨j, rfl, hj, HI3⟩ := hrel
    have n1 : wr.cell? ⟨W.heap.size + 1, 1, none⟩ = some (.slice A1 x.f1.length c1) := (blk_cell HI3.out.2.1 1).trans rfl
    by_cases hlt : j < x.f1.length
    · have b1 : decide (((j : Nat) : Int) < ((x.f1.length : Nat) : Int)) = true := decide_eq_true (by omega)
      have q1 : ((j : Nat) : Int) < ((x.f1.length : Nat) : Int) := by omega
      have q0 : (0 : Int) ≤ ((j : Nat) : Int) := by omega
      obtain ⟨ad1, rfl, hk1⟩ := Kd.at_string (Kd.C_below C1 HI3.out.2.2.1.2.2) j q0 q1
      have hk1 : wr.cell? (ad1.add j) = some (.string x.f1[j]) := by
        rw [rdOf_eq _ _ hlt] at hk1
        exact hk1
      have HH : Aside0 (∀ W', Calls Try.prog 55 #[.agg #[.string (lo.getD ⟨#[]⟩), .string (hi.getD ⟨#[]⟩), .bool lo.isSome, .bool hi.isSome], .string x.f1[j]] W' fun e w' => e = .returned (.bool true) ∧ Below W'.heap.size W' w') := ⟨fun W' => by
        have := holds_calls (lo.getD ⟨#[]⟩) (hi.getD ⟨#[]⟩) lo.isSome hi.isSome x.f1[j] W'
        rwa [inR_holds (hrk _ (List.getElem_mem hlt))] at this⟩
      have m0 : wr.cell? ⟨W.heap.size, 0, none⟩ = some (.string (lo.getD ⟨#[]⟩)) := (blk_cell HI3.out.1 0).trans rfl
      have m1 : wr.cell? ⟨W.heap.size, 1, none⟩ = some (.string (hi.getD ⟨#[]⟩)) := (blk_cell HI3.out.1 1).trans rfl
      have m2 : wr.cell? ⟨W.heap.size, 2, none⟩ = some (.bool lo.isSome) := (blk_cell HI3.out.1 2).trans rfl
      have m3 : wr.cell? ⟨W.heap.size, 3, none⟩ = some (.bool hi.isSome) := (blk_cell HI3.out.1 3).trans rfl
      replace q0 := eq_true q0
      replace q1 := eq_true q1
      by_cases hj0 : j = 0
      · have e0 : decide ((0 : Int) < ((j : Nat) : Int)) = false := decide_eq_false (by omega)
        have e0n : decide (0 < j) = false := decide_eq_false (by omega)
        clear hj0
        generalize x.f1[j] = k at *
        generalize W.heap.size = cb at *
        have HSK : Aside0 (∀ W', Below wr.heap.size wr W' → W'.cell? ⟨cb, 0, none⟩ = some (.string (lo.getD ⟨#[]⟩)) ∧ W'.cell? ⟨cb, 1, none⟩ = some (.string (hi.getD ⟨#[]⟩)) ∧ W'.cell? ⟨cb, 2, none⟩ = some (.bool lo.isSome) ∧ W'.cell? ⟨cb, 3, none⟩ = some (.bool hi.isSome) ∧ W'.cell? ⟨cb + 1, 1, none⟩ = some (.slice (some ad1) x.f1.length c1) ∧ W'.cell? (ad1.add j) = some (.string k) ∧ Below wr.heap.size wr W') :=
          ⟨fun W' hb => ⟨pw_cell_below hb m0, pw_cell_below hb m1, pw_cell_below hb m2, pw_cell_below hb m3, pw_cell_below hb n1, pw_cell_below hb hk1, hb⟩⟩
        clear m0 m1 m2 m3 hk1
        go_wp2
        refine wp_region_held_drew (S := fun W' => W'.cell? ⟨cb, 0, none⟩ = some (.string (lo.getD ⟨#[]⟩)) ∧ W'.cell? ⟨cb, 1, none⟩ = some (.string (hi.getD ⟨#[]⟩)) ∧ W'.cell? ⟨cb, 2, none⟩ = some (.bool lo.isSome) ∧ W'.cell? ⟨cb, 3, none⟩ = some (.bool hi.isSome) ∧ W'.cell? ⟨cb + 1, 1, none⟩ = some (.slice (some ad1) x.f1.length c1) ∧ W'.cell? (ad1.add j) = some (.string k) ∧ Below wr.heap.size wr W') (by kernel_rfl) (HSK.out _ (below_drew (Below.refl _ _))) (fun hHeld => ?_)
        refine wpAnyH_take (i := 0) (v := ?v0) rfl (by kernel_rfl) (by kernel_rfl) (by kernel_rfl) (fun _ _ _ h => h) (Or.inl ⟨by rfl, fun wq hSw => ?y0⟩) (by assumption) ?r0
        case y0 => ((try dsimp only at hSw); go_simp; try with_reducible rfl)
        try simp only [Act.put, List.setIfInBounds_toArray, List.set_cons_zero, List.set_cons_succ, List.getElem_toArray, List.getElem_cons_zero, List.getElem_cons_succ]
        refine wpAnyH_take (i := 1) (v := ?v1) rfl (by kernel_rfl) (by kernel_rfl) (by kernel_rfl) (fun _ _ _ h => h) (Or.inl ⟨by rfl, fun wq hSw => ?y1⟩) (by assumption) ?r1
        case y1 => ((try dsimp only at hSw); go_simp; try with_reducible rfl)
        try simp only [Act.put, List.setIfInBounds_toArray, List.set_cons_zero, List.set_cons_succ, List.getElem_toArray, List.getElem_cons_zero, List.getElem_cons_succ]
        refine wpAnyH_take (i := 2) (v := ?v2) rfl (by kernel_rfl) (by kernel_rfl) (by kernel_rfl) (fun _ _ _ h => h) (Or.inl ⟨by rfl, fun wq hSw => ?y2⟩) (by assumption) ?r2
        case y2 => ((try dsimp only at hSw); go_simp; try with_reducible rfl)
        try simp only [Act.put, List.setIfInBounds_toArray, List.set_cons_zero, List.set_cons_succ, List.getElem_toArray, List.getElem_cons_zero, List.getElem_cons_succ]
        refine wpAnyH_take (i := 3) (v := ?v3) rfl (by kernel_rfl) (by kernel_rfl) (by kernel_rfl) (fun _ _ _ h => h) (Or.inl ⟨by rfl, fun wq hSw => ?y3⟩) (by assumption) ?r3
        case y3 => ((try dsimp only at hSw); go_simp; try with_reducible rfl)
        try simp only [Act.put, List.setIfInBounds_toArray, List.set_cons_zero, List.set_cons_succ, List.getElem_toArray, List.getElem_cons_zero, List.getElem_cons_succ]
        refine wpAnyH_take (i := 4) (v := ?v4) rfl (by kernel_rfl) (by kernel_rfl) (by kernel_rfl) (fun _ _ _ h => h) (Or.inl ⟨by rfl, fun wq hSw => ?y4⟩) (by assumption) ?r4
        case y4 => ((try dsimp only at hSw); go_simp; try with_reducible rfl)
        try simp only [Act.put, List.setIfInBounds_toArray, List.set_cons_zero, List.set_cons_succ, List.getElem_toArray, List.getElem_cons_zero, List.getElem_cons_succ]
        refine wpAnyH_take (i := 5) (v := ?v5) rfl (by kernel_rfl) (by kernel_rfl) (by kernel_rfl) (fun _ _ _ h => h) (Or.inl ⟨by rfl, fun wq hSw => ?y5⟩) (by assumption) ?r5
        case y5 => ((try dsimp only at hSw); go_simp; try with_reducible rfl)
        try simp only [Act.put, List.setIfInBounds_toArray, List.set_cons_zero, List.set_cons_succ, List.getElem_toArray, List.getElem_cons_zero, List.getElem_cons_succ]
        refine wpAnyH_ready (rs := [6]) (by kernel_rfl) (by simp) ?_
        refine AllReadyH.cons (by rfl) (fun K hK => ?_) AllReadyH.nil
        go_wp2_with (go_at_call 55; refine (HH.out _).mono ?_; rintro e w4 ⟨rfl, hb1⟩)
        have hBn := below_go hb1 (And.right (And.right (And.right (And.right (And.right (And.right hHeld))))))
        clear hb1
        refine hK.out _ _ (HSK.out _ hBn) (fun hHeld2 => ?_)
        clear hK hHeld K
        try simp only [Act.put, List.setIfInBounds_toArray, List.set_cons_zero, List.set_cons_succ, List.getElem_toArray, List.getElem_cons_zero, List.getElem_cons_succ]
        refine wpAnyH_take (i := 7) (v := ?v7) rfl (by kernel_rfl) (by kernel_rfl) (by kernel_rfl) (fun _ _ _ h => h) (Or.inl ⟨by rfl, fun wq hSw => ?y7⟩) (by assumption) ?r7
        case y7 => ((try dsimp only at hSw); go_simp; try with_reducible rfl)
        try simp only [Act.put, List.setIfInBounds_toArray, List.set_cons_zero, List.set_cons_succ, List.getElem_toArray, List.getElem_cons_zero, List.getElem_cons_succ]
        refine wpAnyH_take (i := 8) (v := ?v8) rfl (by kernel_rfl) (by kernel_rfl) (by kernel_rfl) (fun _ _ _ h => h) (Or.inl ⟨by rfl, fun wq hSw => ?y8⟩) (by assumption) ?r8
        case y8 => ((try dsimp only at hSw); go_simp; try with_reducible rfl)
        try simp only [Act.put, List.setIfInBounds_toArray, List.set_cons_zero, List.set_cons_succ, List.getElem_toArray, List.getElem_cons_zero, List.getElem_cons_succ]
        refine wpAnyH_take (i := 9) (v := ?v9) rfl (by kernel_rfl) (by kernel_rfl) (by kernel_rfl) (fun _ _ _ h => h) (Or.inl ⟨by rfl, fun wq hSw => ?y9⟩) (by assumption) ?r9
        case y9 => ((try dsimp only at hSw); go_simp; try with_reducible rfl)
        try simp only [Act.put, List.setIfInBounds_toArray, List.set_cons_zero, List.set_cons_succ, List.getElem_toArray, List.getElem_cons_zero, List.getElem_cons_succ]
        refine wpAnyH_take (i := 10) (v := ?v10) rfl (by kernel_rfl) (by kernel_rfl) (by kernel_rfl) (fun _ _ _ h => h) (Or.inl ⟨by rfl, fun wq hSw => ?y10⟩) (by assumption) ?r10
        case y10 => ((try dsimp only at hSw); go_simp; try with_reducible rfl)
        try simp only [Act.put, List.setIfInBounds_toArray, List.set_cons_zero, List.set_cons_succ, List.getElem_toArray, List.getElem_cons_zero, List.getElem_cons_succ]
        refine wpAnyH_take (i := 11) (v := ?v11) rfl (by kernel_rfl) (by kernel_rfl) (by kernel_rfl) (fun _ _ _ h => h) (Or.inl ⟨by rfl, fun wq hSw => ?y11⟩) (by assumption) ?r11
        case y11 => ((try dsimp only at hSw); go_simp; try with_reducible rfl)
        try simp only [Act.put, List.setIfInBounds_toArray, List.set_cons_zero, List.set_cons_succ, List.getElem_toArray, List.getElem_cons_zero, List.getElem_cons_succ]
        refine wpAnyH_take (i := 12) (v := undef) rfl (by kernel_rfl) (by kernel_rfl) (by kernel_rfl) (fun _ _ _ h => h) (Or.inr ⟨by rfl, rfl⟩) (by assumption) ?_
        try simp only [Act.put, List.setIfInBounds_toArray, List.set_cons_zero, List.set_cons_succ, List.getElem_toArray, List.getElem_cons_zero, List.getElem_cons_succ]
        refine wpAnyH_take (i := 13) (v := undef) rfl (by kernel_rfl) (by kernel_rfl) (by kernel_rfl) (fun _ _ _ h => h) (Or.inr ⟨by rfl, rfl⟩) (by assumption) ?_
        try simp only [Act.put, List.setIfInBounds_toArray, List.set_cons_zero, List.set_cons_succ, List.getElem_toArray, List.getElem_cons_zero, List.getElem_cons_succ]
        refine wpAnyH_take (i := 14) (v := undef) rfl (by kernel_rfl) (by kernel_rfl) (by kernel_rfl) (fun _ _ _ h => h) (Or.inr ⟨by rfl, rfl⟩) (by assumption) ?_
        try simp only [Act.put, List.setIfInBounds_toArray, List.set_cons_zero, List.set_cons_succ, List.getElem_toArray, List.getElem_cons_zero, List.getElem_cons_succ]
        refine wpAnyH_take (i := 15) (v := undef) rfl (by kernel_rfl) (by kernel_rfl) (by kernel_rfl) (fun _ _ _ h => h) (Or.inr ⟨by rfl, rfl⟩) (by assumption) ?_
        try simp only [Act.put, List.setIfInBounds_toArray, List.set_cons_zero, List.set_cons_succ, List.getElem_toArray, List.getElem_cons_zero, List.getElem_cons_succ]
        refine wpAnyH_take (i := 16) (v := undef) rfl (by kernel_rfl) (by kernel_rfl) (by kernel_rfl) (fun _ _ _ h => h) (Or.inr ⟨by rfl, rfl⟩) (by assumption) ?_
        try simp only [Act.put, List.setIfInBounds_toArray, List.set_cons_zero, List.set_cons_succ, List.getElem_toArray, List.getElem_cons_zero, List.getElem_cons_succ]
        refine wpAnyH_take (i := 17) (v := undef) rfl (by kernel_rfl) (by kernel_rfl) (by kernel_rfl) (fun _ _ _ h => h) (Or.inr ⟨by rfl, rfl⟩) (by assumption) ?_
        try simp only [Act.put, List.setIfInBounds_toArray, List.set_cons_zero, List.set_cons_succ, List.getElem_toArray, List.getElem_cons_zero, List.getElem_cons_succ]
        refine wpAnyH_take (i := 18) (v := undef) rfl (by kernel_rfl) (by kernel_rfl) (by kernel_rfl) (fun _ _ _ h => h) (Or.inr ⟨by rfl, rfl⟩) (by assumption) ?_
        try simp only [Act.put, List.setIfInBounds_toArray, List.set_cons_zero, List.set_cons_succ, List.getElem_toArray, List.getElem_cons_zero, List.getElem_cons_succ]
        refine wpAnyH_take (i := 19) (v := undef) rfl (by kernel_rfl) (by kernel_rfl) (by kernel_rfl) (fun _ _ _ h => h) (Or.inr ⟨by rfl, rfl⟩) (by assumption) ?_
        try simp only [Act.put, List.setIfInBounds_toArray, List.set_cons_zero, List.set_cons_succ, List.getElem_toArray, List.getElem_cons_zero, List.getElem_cons_succ]
        refine wpAnyH_take (i := 20) (v := undef) rfl (by kernel_rfl) (by kernel_rfl) (by kernel_rfl) (fun _ _ _ h => h) (Or.inr ⟨by rfl, rfl⟩) (by assumption) ?_
        try simp only [Act.put, List.setIfInBounds_toArray, List.set_cons_zero, List.set_cons_succ, List.getElem_toArray, List.getElem_cons_zero, List.getElem_cons_succ]
        refine wpAnyH_take (i := 21) (v := undef) rfl (by kernel_rfl) (by kernel_rfl) (by kernel_rfl) (fun _ _ _ h => h) (Or.inr ⟨by rfl, rfl⟩) (by assumption) ?_
        try simp only [Act.put, List.setIfInBounds_toArray, List.set_cons_zero, List.set_cons_succ, List.getElem_toArray, List.getElem_cons_zero, List.getElem_cons_succ]
        refine wpAnyH_take (i := 22) (v := undef) rfl (by kernel_rfl) (by kernel_rfl) (by kernel_rfl) (fun _ _ _ h => h) (Or.inr ⟨by rfl, rfl⟩) (by assumption) ?_
        try simp only [Act.put, List.setIfInBounds_toArray, List.set_cons_zero, List.set_cons_succ, List.getElem_toArray, List.getElem_cons_zero, List.getElem_cons_succ]
        refine wpAnyH_take (i := 23) (v := undef) rfl (by kernel_rfl) (by kernel_rfl) (by kernel_rfl) (fun _ _ _ h => h) (Or.inr ⟨by rfl, rfl⟩) (by assumption) ?_
        try simp only [Act.put, List.setIfInBounds_toArray, List.set_cons_zero, List.set_cons_succ, List.getElem_toArray, List.getElem_cons_zero, List.getElem_cons_succ]
        refine wpAnyH_take (i := 24) (v := ?v24) rfl (by kernel_rfl) (by kernel_rfl) (by kernel_rfl) (fun _ _ _ h => h) (Or.inl ⟨by rfl, fun wq hSw => ?y24⟩) (by assumption) ?r24
        case y24 => ((try dsimp only at hSw); go_simp; try with_reducible rfl)
        try simp only [Act.put, List.setIfInBounds_toArray, List.set_cons_zero, List.set_cons_succ, List.getElem_toArray, List.getElem_cons_zero, List.getElem_cons_succ]
        refine wpAnyH_take (i := 25) (v := ?v25) rfl (by kernel_rfl) (by kernel_rfl) (by kernel_rfl) (fun _ _ _ h => h) (Or.inl ⟨by rfl, fun wq hSw => ?y25⟩) (by assumption) ?r25
        case y25 => ((try dsimp only at hSw); go_simp; try with_reducible rfl)
        try simp only [Act.put, List.setIfInBounds_toArray, List.set_cons_zero, List.set_cons_succ, List.getElem_toArray, List.getElem_cons_zero, List.getElem_cons_succ]
        refine wpAnyH_done (by kernel_rfl) ?_ _
        (try clear ew ew2)
        go_wp2
        go_roundw
        case measure => show x.f1.length - (j + 1) < x.f1.length - j; omega
        case rel => exact ⟨j + 1, by first | rfl | (simp; done) | (congr 1), hlt, ⟨HI3.out.below hBn⟩⟩
      · obtain ⟨m, hm⟩ : ∃ m, j = m + 1 := ⟨j - 1, by omega⟩
        have e0 : decide ((0 : Int) < ((j : Nat) : Int)) = true := decide_eq_true (by omega)
        have e0n : decide (0 < j) = true := decide_eq_true (by omega)
        have hm9 : m < x.f1.length := by omega
        have hlk : blt x.f1[m] x.f1[j] = true := List.pairwise_iff_getElem.1 hsk m j hm9 hlt (by omega)
        have hk2 : wr.cell? (ad1.add m) = some (.string x.f1[m]) := by
          obtain ⟨ad9, e9, hk9⟩ := Kd.at_string (Kd.C_below C1 HI3.out.2.2.1.2.2) ((m : Nat) : Int) (Int.natCast_nonneg m) (Int.ofNat_lt.2 hm9)
          cases e9
          rw [rdOf_eq _ _ hm9] at hk9
          exact hk9
        have r0 : ((0 : Int) ≤ ((m : Nat) : Int)) = True := eq_true (Int.natCast_nonneg m)
        have r1 : (((m : Nat) : Int) < ((x.f1.length : Nat) : Int)) = True := eq_true (Int.ofNat_lt.2 hm9)
        have hle : (Op.bytesLess x.f1[j].toList x.f1[m].toList || x.f1[j].toList == x.f1[m].toList) = false := by
          have h1 : Op.bytesLess x.f1[j].toList x.f1[m].toList = false := blt_asymm hlk
          rw [h1, beq_decide, Bool.false_or]
          apply decide_eq_false
          intro e
          rw [e, blt_irrefl] at hlk
          cases hlk
        have ew : wrap64 (((j : Nat) : Int) - 1) = (m : Int) := by
          rw [wrap_small _ (by omega) (by omega)]
          omega
        have ew2 : IntKind.i64.wrap (((j : Nat) : Int) - 1) = (m : Int) := (i64_w _).trans ew
        have hleq := PTreeRanks.run_leq
        clear hlk hm hj0
        generalize x.f1[j] = k at *
        generalize x.f1[m] = kp at *
        generalize W.heap.size = cb at *
        have HSK : Aside0 (∀ W', Below wr.heap.size wr W' → W'.cell? ⟨cb, 0, none⟩ = some (.string (lo.getD ⟨#[]⟩)) ∧ W'.cell? ⟨cb, 1, none⟩ = some (.string (hi.getD ⟨#[]⟩)) ∧ W'.cell? ⟨cb, 2, none⟩ = some (.bool lo.isSome) ∧ W'.cell? ⟨cb, 3, none⟩ = some (.bool hi.isSome) ∧ W'.cell? ⟨cb + 1, 1, none⟩ = some (.slice (some ad1) x.f1.length c1) ∧ W'.cell? (ad1.add j) = some (.string k) ∧ W'.cell? (ad1.add m) = some (.string kp) ∧ Below wr.heap.size wr W') :=
          ⟨fun W' hb => ⟨pw_cell_below hb m0, pw_cell_below hb m1, pw_cell_below hb m2, pw_cell_below hb m3, pw_cell_below hb n1, pw_cell_below hb hk1, pw_cell_below hb hk2, hb⟩⟩
        clear m0 m1 m2 m3 hk1
        go_wp2
        refine wp_region_held_drew (S := fun W' => W'.cell? ⟨cb, 0, none⟩ = some (.string (lo.getD ⟨#[]⟩)) ∧ W'.cell? ⟨cb, 1, none⟩ = some (.string (hi.getD ⟨#[]⟩)) ∧ W'.cell? ⟨cb, 2, none⟩ = some (.bool lo.isSome) ∧ W'.cell? ⟨cb, 3, none⟩ = some (.bool hi.isSome) ∧ W'.cell? ⟨cb + 1, 1, none⟩ = some (.slice (some ad1) x.f1.length c1) ∧ W'.cell? (ad1.add j) = some (.string k) ∧ W'.cell? (ad1.add m) = some (.string kp) ∧ Below wr.heap.size wr W') (by kernel_rfl) (HSK.out _ (below_drew (Below.refl _ _))) (fun hHeld => ?_)
        refine wpAnyH_take (i := 0) (v := ?v0b) rfl (by kernel_rfl) (by kernel_rfl) (by kernel_rfl) (fun _ _ _ h => h) (Or.inl ⟨by rfl, fun wq hSw => ?y0b⟩) (by assumption) ?r0b
        case y0b => ((try dsimp only at hSw); go_simp; try with_reducible rfl)
        try simp only [Act.put, List.setIfInBounds_toArray, List.set_cons_zero, List.set_cons_succ, List.getElem_toArray, List.getElem_cons_zero, List.getElem_cons_succ]
        refine wpAnyH_take (i := 1) (v := ?v1b) rfl (by kernel_rfl) (by kernel_rfl) (by kernel_rfl) (fun _ _ _ h => h) (Or.inl ⟨by rfl, fun wq hSw => ?y1b⟩) (by assumption) ?r1b
        case y1b => ((try dsimp only at hSw); go_simp; try with_reducible rfl)
        try simp only [Act.put, List.setIfInBounds_toArray, List.set_cons_zero, List.set_cons_succ, List.getElem_toArray, List.getElem_cons_zero, List.getElem_cons_succ]
        refine wpAnyH_take (i := 2) (v := ?v2b) rfl (by kernel_rfl) (by kernel_rfl) (by kernel_rfl) (fun _ _ _ h => h) (Or.inl ⟨by rfl, fun wq hSw => ?y2b⟩) (by assumption) ?r2b
        case y2b => ((try dsimp only at hSw); go_simp; try with_reducible rfl)
        try simp only [Act.put, List.setIfInBounds_toArray, List.set_cons_zero, List.set_cons_succ, List.getElem_toArray, List.getElem_cons_zero, List.getElem_cons_succ]
        refine wpAnyH_take (i := 3) (v := ?v3b) rfl (by kernel_rfl) (by kernel_rfl) (by kernel_rfl) (fun _ _ _ h => h) (Or.inl ⟨by rfl, fun wq hSw => ?y3b⟩) (by assumption) ?r3b
        case y3b => ((try dsimp only at hSw); go_simp; try with_reducible rfl)
        try simp only [Act.put, List.setIfInBounds_toArray, List.set_cons_zero, List.set_cons_succ, List.getElem_toArray, List.getElem_cons_zero, List.getElem_cons_succ]
        refine wpAnyH_take (i := 4) (v := ?v4b) rfl (by kernel_rfl) (by kernel_rfl) (by kernel_rfl) (fun _ _ _ h => h) (Or.inl ⟨by rfl, fun wq hSw => ?y4b⟩) (by assumption) ?r4b
        case y4b => ((try dsimp only at hSw); go_simp; try with_reducible rfl)
        try simp only [Act.put, List.setIfInBounds_toArray, List.set_cons_zero, List.set_cons_succ, List.getElem_toArray, List.getElem_cons_zero, List.getElem_cons_succ]
        refine wpAnyH_take (i := 5) (v := ?v5b) rfl (by kernel_rfl) (by kernel_rfl) (by kernel_rfl) (fun _ _ _ h => h) (Or.inl ⟨by rfl, fun wq hSw => ?y5b⟩) (by assumption) ?r5b
        case y5b => ((try dsimp only at hSw); go_simp; try with_reducible rfl)
        try simp only [Act.put, List.setIfInBounds_toArray, List.set_cons_zero, List.set_cons_succ, List.getElem_toArray, List.getElem_cons_zero, List.getElem_cons_succ]
        refine wpAnyH_ready (rs := [6]) (by kernel_rfl) (by simp) ?_
        refine AllReadyH.cons (by rfl) (fun K hK => ?_) AllReadyH.nil
        go_wp2_with (go_at_call 55; refine (HH.out _).mono ?_; rintro e w4 ⟨rfl, hb1⟩)
        have hBn := below_go hb1 (And.right (And.right (And.right (And.right (And.right (And.right (And.right hHeld)))))))
        clear hb1
        refine hK.out _ _ (HSK.out _ hBn) (fun hHeld2 => ?_)
        clear hK hHeld K
        try simp only [Act.put, List.setIfInBounds_toArray, List.set_cons_zero, List.set_cons_succ, List.getElem_toArray, List.getElem_cons_zero, List.getElem_cons_succ]
        refine wpAnyH_take (i := 7) (v := ?v7b) rfl (by kernel_rfl) (by kernel_rfl) (by kernel_rfl) (fun _ _ _ h => h) (Or.inl ⟨by rfl, fun wq hSw => ?y7b⟩) (by assumption) ?r7b
        case y7b => ((try dsimp only at hSw); go_simp; try with_reducible rfl)
        try simp only [Act.put, List.setIfInBounds_toArray, List.set_cons_zero, List.set_cons_succ, List.getElem_toArray, List.getElem_cons_zero, List.getElem_cons_succ]
        refine wpAnyH_take (i := 8) (v := ?v8b) rfl (by kernel_rfl) (by kernel_rfl) (by kernel_rfl) (fun _ _ _ h => h) (Or.inl ⟨by rfl, fun wq hSw => ?y8b⟩) (by assumption) ?r8b
        case y8b => ((try dsimp only at hSw); go_simp; try with_reducible rfl)
        try simp only [Act.put, List.setIfInBounds_toArray, List.set_cons_zero, List.set_cons_succ, List.getElem_toArray, List.getElem_cons_zero, List.getElem_cons_succ]
        refine wpAnyH_take (i := 9) (v := ?v9b) rfl (by kernel_rfl) (by kernel_rfl) (by kernel_rfl) (fun _ _ _ h => h) (Or.inl ⟨by rfl, fun wq hSw => ?y9b⟩) (by assumption) ?r9b
        case y9b => ((try dsimp only at hSw); go_simp; try with_reducible rfl)
        try simp only [Act.put, List.setIfInBounds_toArray, List.set_cons_zero, List.set_cons_succ, List.getElem_toArray, List.getElem_cons_zero, List.getElem_cons_succ]
        refine wpAnyH_take (i := 10) (v := ?v10b) rfl (by kernel_rfl) (by kernel_rfl) (by kernel_rfl) (fun _ _ _ h => h) (Or.inl ⟨by rfl, fun wq hSw => ?y10b⟩) (by assumption) ?r10b
        case y10b => ((try dsimp only at hSw); go_simp; try with_reducible rfl)
        try simp only [Act.put, List.setIfInBounds_toArray, List.set_cons_zero, List.set_cons_succ, List.getElem_toArray, List.getElem_cons_zero, List.getElem_cons_succ]
        refine wpAnyH_take (i := 11) (v := ?v11b) rfl (by kernel_rfl) (by kernel_rfl) (by kernel_rfl) (fun _ _ _ h => h) (Or.inl ⟨by rfl, fun wq hSw => ?y11b⟩) (by assumption) ?r11b
        case y11b => ((try dsimp only at hSw); go_simp; try with_reducible rfl)
        try simp only [Act.put, List.setIfInBounds_toArray, List.set_cons_zero, List.set_cons_succ, List.getElem_toArray, List.getElem_cons_zero, List.getElem_cons_succ]
        refine wpAnyH_take (i := 12) (v := ?v12b) rfl (by kernel_rfl) (by kernel_rfl) (by kernel_rfl) (fun _ _ _ h => h) (Or.inl ⟨by rfl, fun wq hSw => ?y12b⟩) (by assumption) ?r12b
        case y12b => ((try dsimp only at hSw); go_simp; try with_reducible rfl)
        try simp only [Act.put, List.setIfInBounds_toArray, List.set_cons_zero, List.set_cons_succ, List.getElem_toArray, List.getElem_cons_zero, List.getElem_cons_succ]
        refine wpAnyH_take (i := 13) (v := ?v13b) rfl (by kernel_rfl) (by kernel_rfl) (by kernel_rfl) (fun _ _ _ h => h) (Or.inl ⟨by rfl, fun wq hSw => ?y13b⟩) (by assumption) ?r13b
        case y13b => ((try dsimp only at hSw); go_simp; try with_reducible rfl)
        try simp only [Act.put, List.setIfInBounds_toArray, List.set_cons_zero, List.set_cons_succ, List.getElem_toArray, List.getElem_cons_zero, List.getElem_cons_succ]
        refine wpAnyH_take (i := 14) (v := ?v14b) rfl (by kernel_rfl) (by kernel_rfl) (by kernel_rfl) (fun _ _ _ h => h) (Or.inl ⟨by rfl, fun wq hSw => ?y14b⟩) (by assumption) ?r14b
        case y14b => ((try dsimp only at hSw); go_simp; try with_reducible rfl)
        try simp only [Act.put, List.setIfInBounds_toArray, List.set_cons_zero, List.set_cons_succ, List.getElem_toArray, List.getElem_cons_zero, List.getElem_cons_succ]
        refine wpAnyH_take (i := 15) (v := ?v15b) rfl (by kernel_rfl) (by kernel_rfl) (by kernel_rfl) (fun _ _ _ h => h) (Or.inl ⟨by rfl, fun wq hSw => ?y15b⟩) (by assumption) ?r15b
        case y15b => ((try dsimp only at hSw); go_simp; try with_reducible rfl)
        try simp only [Act.put, List.setIfInBounds_toArray, List.set_cons_zero, List.set_cons_succ, List.getElem_toArray, List.getElem_cons_zero, List.getElem_cons_succ]
        refine wpAnyH_take (i := 16) (v := ?v16b) rfl (by kernel_rfl) (by kernel_rfl) (by kernel_rfl) (fun _ _ _ h => h) (Or.inl ⟨by rfl, fun wq hSw => ?y16b⟩) (by assumption) ?r16b
        case y16b => ((try dsimp only at hSw); go_simp; try with_reducible rfl)
        try simp only [Act.put, List.setIfInBounds_toArray, List.set_cons_zero, List.set_cons_succ, List.getElem_toArray, List.getElem_cons_zero, List.getElem_cons_succ]
        refine wpAnyH_take (i := 17) (v := ?v17b) rfl (by kernel_rfl) (by kernel_rfl) (by kernel_rfl) (fun _ _ _ h => h) (Or.inl ⟨by rfl, fun wq hSw => ?y17b⟩) (by assumption) ?r17b
        case y17b => ((try dsimp only at hSw); go_simp; try with_reducible rfl)
        try simp only [Act.put, List.setIfInBounds_toArray, List.set_cons_zero, List.set_cons_succ, List.getElem_toArray, List.getElem_cons_zero, List.getElem_cons_succ]
        refine wpAnyH_take (i := 18) (v := ?v18b) rfl (by kernel_rfl) (by kernel_rfl) (by kernel_rfl) (fun _ _ _ h => h) (Or.inl ⟨by rfl, fun wq hSw => ?y18b⟩) (by assumption) ?r18b
        case y18b => ((try dsimp only at hSw); go_simp; try with_reducible rfl)
        try simp only [Act.put, List.setIfInBounds_toArray, List.set_cons_zero, List.set_cons_succ, List.getElem_toArray, List.getElem_cons_zero, List.getElem_cons_succ]
        refine wpAnyH_take (i := 19) (v := ?v19b) rfl (by kernel_rfl) (by kernel_rfl) (by kernel_rfl) (fun _ _ _ h => h) (Or.inl ⟨by rfl, fun wq hSw => ?y19b⟩) (by assumption) ?r19b
        case y19b => ((try dsimp only at hSw); go_simp; try with_reducible rfl)
        try simp only [Act.put, List.setIfInBounds_toArray, List.set_cons_zero, List.set_cons_succ, List.getElem_toArray, List.getElem_cons_zero, List.getElem_cons_succ]
        refine wpAnyH_take (i := 20) (v := ?v20b) rfl (by kernel_rfl) (by kernel_rfl) (by kernel_rfl) (fun _ _ _ h => h) (Or.inl ⟨by rfl, fun wq hSw => ?y20b⟩) (by assumption) ?r20b
        case y20b => ((try dsimp only at hSw); go_simp; try with_reducible rfl)
        try simp only [Act.put, List.setIfInBounds_toArray, List.set_cons_zero, List.set_cons_succ, List.getElem_toArray, List.getElem_cons_zero, List.getElem_cons_succ]
        refine wpAnyH_take (i := 21) (v := ?v21b) rfl (by kernel_rfl) (by kernel_rfl) (by kernel_rfl) (fun _ _ _ h => h) (Or.inl ⟨by rfl, fun wq hSw => ?y21b⟩) (by assumption) ?r21b
        case y21b => ((try dsimp only at hSw); go_simp; try with_reducible rfl)
        try simp only [Act.put, List.setIfInBounds_toArray, List.set_cons_zero, List.set_cons_succ, List.getElem_toArray, List.getElem_cons_zero, List.getElem_cons_succ]
        refine wpAnyH_take (i := 22) (v := ?v22b) rfl (by kernel_rfl) (by kernel_rfl) (by kernel_rfl) (fun _ _ _ h => h) (Or.inl ⟨by rfl, fun wq hSw => ?y22b⟩) (by assumption) ?r22b
        case y22b => ((try dsimp only at hSw); go_simp; try with_reducible rfl)
        try simp only [Act.put, List.setIfInBounds_toArray, List.set_cons_zero, List.set_cons_succ, List.getElem_toArray, List.getElem_cons_zero, List.getElem_cons_succ]
        refine wpAnyH_take (i := 23) (v := ?v23b) rfl (by kernel_rfl) (by kernel_rfl) (by kernel_rfl) (fun _ _ _ h => h) (Or.inl ⟨by rfl, fun wq hSw => ?y23b⟩) (by assumption) ?r23b
        case y23b => ((try dsimp only at hSw); go_simp; try with_reducible rfl)
        try simp only [Act.put, List.setIfInBounds_toArray, List.set_cons_zero, List.set_cons_succ, List.getElem_toArray, List.getElem_cons_zero, List.getElem_cons_succ]
        refine wpAnyH_take (i := 24) (v := ?v24b) rfl (by kernel_rfl) (by kernel_rfl) (by kernel_rfl) (fun _ _ _ h => h) (Or.inl ⟨by rfl, fun wq hSw => ?y24b⟩) (by assumption) ?r24b
        case y24b => ((try dsimp only at hSw); go_simp; try with_reducible rfl)
        try simp only [Act.put, List.setIfInBounds_toArray, List.set_cons_zero, List.set_cons_succ, List.getElem_toArray, List.getElem_cons_zero, List.getElem_cons_succ]
        refine wpAnyH_take (i := 25) (v := ?v25b) rfl (by kernel_rfl) (by kernel_rfl) (by kernel_rfl) (fun _ _ _ h => h) (Or.inl ⟨by rfl, fun wq hSw => ?y25b⟩) (by assumption) ?r25b
        case y25b => ((try dsimp only at hSw); go_simp; try with_reducible rfl)
        try simp only [Act.put, List.setIfInBounds_toArray, List.set_cons_zero, List.set_cons_succ, List.getElem_toArray, List.getElem_cons_zero, List.getElem_cons_succ]
        refine wpAnyH_done (by kernel_rfl) ?_ _
        (try clear ew ew2)
        go_wp2
        go_roundw
        case measure => show x.f1.length - (j + 1) < x.f1.length - j; omega
        case rel => exact ⟨j + 1, by first | rfl | (simp; done) | (congr 1), hlt, ⟨HI3.out.below hBn⟩⟩
    · have b1 : decide (((j : Nat) : Int) < ((x.f1.length : Nat) : Int)) = false := decide_eq_false (by omega)
      obtain rfl : j = x.f1.length := by omega
      have n0 : wr.cell? ⟨W.heap.size + 1, 0, none⟩ = some (.bool x.f0) := (blk_cell HI3.out.2.1 0).trans rfl
      have f2 : wr.cell? ⟨F, 2, none⟩ = some (.int .i64 (dep : Nat)) := (blk_cell HI3.out.2.2.1.1 2).trans rfl
      have ff2 : wr.frozen? ⟨F, 2, none⟩ = false := blk_frozen HI3.out.2.2.1.1 2
      obtain ⟨lf, keys, kids⟩ := x
      cases lf with
      | true =>
        rcases hdep with h0 | h0
        · have e1 : decide (((dep : Nat) : Int) = 0) = true := decide_eq_true (by omega)
          have e2 : (((dep : Nat) : Int) == 0) = true := by rw [h0]; rfl
          clear h0
          obtain rfl : d = 0 := hleaf rfl
          have hg1 : wr.grownBy (wr.setCell ⟨F, 2, none⟩ (.int .i64 (depth : Nat))) (some F) := gb_set (grownBy_refl _ _) _ _
          have HN : Aside0 (NodeI w0 F (some ad) r.length cn order W.heap.size (W.heap.size + 1) lo hi true A1 keys.length c1 A2 kids.length c2 W depth kv acc (wr.setCell ⟨F, 2, none⟩ (.int .i64 (depth : Nat)))) := by
            obtain ⟨a1, a2, ⟨a3, a4, a5⟩, a6, a7, a8⟩ := HI3.out
            refine ⟨(hg1.block _ (blk_lt a1) (fun e => by injection e with e; omega)).trans a1, (hg1.block _ (blk_lt a2) (fun e => by injection e with e; omega)).trans a2, ⟨(blk_set a3 2 _).trans rfl, Kd.R_grown a4 hg1 (fun k hk e => by injection e with e; exact hk e), ?_⟩, a6.cell hg1, a7, a8⟩
            exact a5.trans (grownBy_below hg1 a5.size (fun k e => by injection e with e; omega))
          clear HI3 hg1
          go_wp2
          clear f2 ff2 n1 n0
          generalize wr.setCell ⟨F, 2, none⟩ (.int .i64 (depth : Nat)) = Wd at *
          obtain ⟨Av, cv, rfl, hcv, _⟩ := Kd.R_reads HN.out.2.2.1.2.1
          have g3 : Wd.cell? ⟨F, 3, none⟩ = some (.slice Av acc.length cv) := (blk_cell HN.out.2.2.1.1 3).trans rfl
          have gf3 : Wd.frozen? ⟨F, 3, none⟩ = false := blk_frozen HN.out.2.2.1.1 3
          have n1 : Wd.cell? ⟨W.heap.size + 1, 1, none⟩ = some (.slice A1 keys.length c1) := (blk_cell HN.out.2.1 1).trans rfl
          have HND := Aside0.mk (HN.out.below (below_drew (Below.refl _ _)))
          have HRV := Aside0.mk HND.out.2.2.1.2.1
          have HRK : Aside0 (ReadsRow (Kd.string.K Wd.drew) 1 Wd.drew A1 keys.length keys) := ⟨Kd.C_below C1 HND.out.2.2.1.2.2⟩
          have HAC : Aside0 ((acc.length + keys.length) * 16 ≤ 140737488355328) := ⟨by have h := hacc; rw [List.length_append] at h; have h2 : acc.length + keys.length ≤ 1099511627776 := h; omega⟩
          have HBW := Aside0.mk HND.out.2.2.1.2.2
          have HFR : Aside0 (∀ k, Wd.drew.heap.size ≤ k → k ≠ F) := ⟨fun k hk => by have := blk_lt HND.out.2.2.1.1; omega⟩
          have HOV : Aside0 (some F ≠ (Value.slice Av acc.length cv).ownBlock) := ⟨fun e => HRV.out.1 F e.symm rfl⟩
          have HFH := Aside0.mk HND.out.2.2.1.1
          clear hacc
          go_region_law ((refine Kd.R_append_rows_step Kd.string (w0 := w0) w0.heap.size (by rfl) (.tmp 88) (.tmp 90) 22 9 (.string ⟨#[]⟩) 16 rfl Try.underlying22 info9 rfl (by decide) (by decide) (.slice Av acc.length cv) acc keys A1 keys.length c1 (fun k => k ≠ F) (fun _ => False) (by simp [Act.eval, Act.put]) (by simp [Act.eval, Act.put]) HRV.out HRK.out (fun _ _ h => h) (fun _ h => h.elim) HFR.out HBW.out HBW.out.size HAC.out ?_; intro v1 w3 ho3 hb3 hg3 hat3; obtain ⟨A5, c5, e5, _, _⟩ := Kd.R_reads ho3; subst e5; have hf3 := (hg3.block F (blk_lt HFH.out) HOV.out).trans HFH.out; have t3 : w3.cell? ⟨F, 3, none⟩ = some (.slice Av acc.length cv) := (blk_cell hf3 3).trans rfl; have tf3 : w3.frozen? ⟨F, 3, none⟩ = false := blk_frozen hf3 3; have HO3 := Aside0.mk ho3; have HB3 := Aside0.mk hb3; have HG3 := Aside0.mk hg3; have HF3 := Aside0.mk hf3; clear ho3 hb3 hg3 hat3 hf3))
          all_goals
            have HO4 := HO3.out
            rw [List.length_append] at HO4
            have hg9 : w3.grownBy (w3.setCell ⟨F, 3, none⟩ (.slice A5 (acc.length + keys.length) c5)) (some F) := gb_set (grownBy_refl _ _) _ _
            have HFIN : Aside0 (Keep9 F W (w3.setCell ⟨F, 3, none⟩ (.slice A5 (acc.length + keys.length) c5)) ∧ FormI w0 F (some ad) r.length cn order depth (.slice A5 (acc.length + keys.length) c5) (acc ++ keys) (w3.setCell ⟨F, 3, none⟩ (.slice A5 (acc.length + keys.length) c5))) := by
              obtain ⟨inner, hin⟩ := Kd.R_own HRV.out
              refine ⟨(HND.out.2.2.2.1.row hin HG3.out).cell hg9, (blk_set HF3.out 3 _).trans rfl, Kd.R_grown HO4 hg9 (fun k hk e => by injection e with e; exact hk e), ?_⟩
              exact HB3.out.trans (grownBy_below hg9 HB3.out.size (fun k e => by injection e with e; omega))
            clear hg9 HO4
            go_wp2
            refine bodyPost_ret (v := .tuple #[]) (by simp [results, Try.results38, go_sem]) rfl ?_
            exact ⟨rfl, HFIN.out.1, _, HFIN.out.2⟩
        · obtain rfl : d = 0 := hleaf rfl
          obtain rfl : dep = depth := h0
          have e2 : (((dep : Nat) : Int) == 0) = false := by
            apply Bool.eq_false_iff.2
            intro e
            have e : ((dep : Nat) : Int) = 0 := by simpa using e
            omega
          have e3 : decide (((dep : Nat) : Int) = 0) = false := decide_eq_false (by omega)
          have e4 : dep ≠ 0 := by omega
          have HN := HI3
          clear HI3
          go_wp2
          clear f2 ff2 n1 n0
          generalize wr = Wd at *
          obtain ⟨Av, cv, rfl, hcv, _⟩ := Kd.R_reads HN.out.2.2.1.2.1
          have g3 : Wd.cell? ⟨F, 3, none⟩ = some (.slice Av acc.length cv) := (blk_cell HN.out.2.2.1.1 3).trans rfl
          have gf3 : Wd.frozen? ⟨F, 3, none⟩ = false := blk_frozen HN.out.2.2.1.1 3
          have n1 : Wd.cell? ⟨W.heap.size + 1, 1, none⟩ = some (.slice A1 keys.length c1) := (blk_cell HN.out.2.1 1).trans rfl
          have HND := Aside0.mk (HN.out.below (below_drew (Below.refl _ _)))
          have HRV := Aside0.mk HND.out.2.2.1.2.1
          have HRK : Aside0 (ReadsRow (Kd.string.K Wd.drew) 1 Wd.drew A1 keys.length keys) := ⟨Kd.C_below C1 HND.out.2.2.1.2.2⟩
          have HAC : Aside0 ((acc.length + keys.length) * 16 ≤ 140737488355328) := ⟨by have h := hacc; rw [List.length_append] at h; have h2 : acc.length + keys.length ≤ 1099511627776 := h; omega⟩
          have HBW := Aside0.mk HND.out.2.2.1.2.2
          have HFR : Aside0 (∀ k, Wd.drew.heap.size ≤ k → k ≠ F) := ⟨fun k hk => by have := blk_lt HND.out.2.2.1.1; omega⟩
          have HOV : Aside0 (some F ≠ (Value.slice Av acc.length cv).ownBlock) := ⟨fun e => HRV.out.1 F e.symm rfl⟩
          have HFH := Aside0.mk HND.out.2.2.1.1
          clear hacc
          go_region_law ((refine Kd.R_append_rows_step Kd.string (w0 := w0) w0.heap.size (by rfl) (.tmp 88) (.tmp 90) 22 9 (.string ⟨#[]⟩) 16 rfl Try.underlying22 info9 rfl (by decide) (by decide) (.slice Av acc.length cv) acc keys A1 keys.length c1 (fun k => k ≠ F) (fun _ => False) (by simp [Act.eval, Act.put]) (by simp [Act.eval, Act.put]) HRV.out HRK.out (fun _ _ h => h) (fun _ h => h.elim) HFR.out HBW.out HBW.out.size HAC.out ?_; intro v1 w3 ho3 hb3 hg3 hat3; obtain ⟨A5, c5, e5, _, _⟩ := Kd.R_reads ho3; subst e5; have hf3 := (hg3.block F (blk_lt HFH.out) HOV.out).trans HFH.out; have t3 : w3.cell? ⟨F, 3, none⟩ = some (.slice Av acc.length cv) := (blk_cell hf3 3).trans rfl; have tf3 : w3.frozen? ⟨F, 3, none⟩ = false := blk_frozen hf3 3; have HO3 := Aside0.mk ho3; have HB3 := Aside0.mk hb3; have HG3 := Aside0.mk hg3; have HF3 := Aside0.mk hf3; clear ho3 hb3 hg3 hat3 hf3))
          all_goals
            have HO4 := HO3.out
            rw [List.length_append] at HO4
            have hg9 : w3.grownBy (w3.setCell ⟨F, 3, none⟩ (.slice A5 (acc.length + keys.length) c5)) (some F) := gb_set (grownBy_refl _ _) _ _
            have HFIN : Aside0 (Keep9 F W (w3.setCell ⟨F, 3, none⟩ (.slice A5 (acc.length + keys.length) c5)) ∧ FormI w0 F (some ad) r.length cn order dep (.slice A5 (acc.length + keys.length) c5) (acc ++ keys) (w3.setCell ⟨F, 3, none⟩ (.slice A5 (acc.length + keys.length) c5))) := by
              obtain ⟨inner, hin⟩ := Kd.R_own HRV.out
              refine ⟨(HND.out.2.2.2.1.row hin HG3.out).cell hg9, (blk_set HF3.out 3 _).trans rfl, Kd.R_grown HO4 hg9 (fun k hk e => by injection e with e; exact hk e), ?_⟩
              exact HB3.out.trans (grownBy_below hg9 HB3.out.size (fun k e => by injection e with e; omega))
            clear hg9 HO4
            go_wp2
            refine bodyPost_ret (v := .tuple #[]) (by simp [results, Try.results38, go_sem]) rfl ?_
            exact ⟨rfl, HFIN.out.1, _, HFIN.out.2⟩
      | false =>
        obtain ⟨hk0, hk1, hk⟩ := hkid rfl
        have HK := Aside0.mk hk
        have hcnt : kids.length ≤ 901 := by have h9 : keys.length ≤ 900 := hnk; have h8 : kids.length = keys.length + 1 := hk1; omega
        have HD := Aside0.mk hdep
        have HK1 := Aside0.mk hk1
        have HK0 := Aside0.mk hk0
        replace hk0 : 0 < kids.length := by have h8 : kids.length = keys.length + 1 := hk1; omega
        clear hk f2 ff2 hkid hleaf hdep hacc hk1
        go_wp2
        go_loopw [10] (fun v10 W' => ∃ (m dep' : Nat) (kv' : Value), v10 = .int .i64 m ∧ m ≤ kids.length ∧ Aside0 (NodeI w0 F (some ad) r.length cn order W.heap.size (W.heap.size + 1) lo hi false A1 keys.length c1 A2 kids.length c2 W dep' kv' (acc ++ (List.range m).flatMap L) W') ∧ Aside0 ((dep' = 0 ∨ dep' = depth + d) ∧ (0 < m → dep' = depth + d))) (fun v10 _ => kids.length - (RowKit.intOf v10).toNat)
        case atStart => exact ⟨0, dep, kv, rfl, Nat.zero_le _, ⟨by rw [List.range_zero, List.flatMap_nil, List.append_nil]; exact HI3.out⟩, ⟨HD.out, fun h => absurd h (Nat.lt_irrefl 0)⟩⟩
        case round =>
          clear HI3 HD n1 n0
          obtain ⟨m, dep', kv', rfl, hm, HI3, HD⟩ := hrel
          have n1 : wr.cell? ⟨W.heap.size + 1, 1, none⟩ = some (.slice A1 keys.length c1) := (blk_cell HI3.out.2.1 1).trans rfl
          have n2 : wr.cell? ⟨W.heap.size + 1, 2, none⟩ = some (.slice A2 kids.length c2) := (blk_cell HI3.out.2.1 2).trans rfl
          have f5 : wr.cell? ⟨F, 5, none⟩ = some (.bool true) := (blk_cell HI3.out.2.2.1.1 5).trans rfl
          by_cases hlt : m < kids.length
          · have b2 : decide (((m : Nat) : Int) < ((kids.length : Nat) : Int)) = true := decide_eq_true (by omega)
            have q1 : (((m : Nat) : Int) < ((kids.length : Nat) : Int)) = True := eq_true (by omega)
            have q0 : ((0 : Int) ≤ ((m : Nat) : Int)) = True := eq_true (by omega)
            obtain ⟨ad2, rfl, hc2⟩ := Kd.at_int (Kd.C_below C2 HI3.out.2.2.1.2.2) m (by omega) (by omega)
            have m0 : wr.cell? ⟨W.heap.size, 0, none⟩ = some (.string (lo.getD ⟨#[]⟩)) := (blk_cell HI3.out.1 0).trans rfl
            have m1 : wr.cell? ⟨W.heap.size, 1, none⟩ = some (.string (hi.getD ⟨#[]⟩)) := (blk_cell HI3.out.1 1).trans rfl
            have m2 : wr.cell? ⟨W.heap.size, 2, none⟩ = some (.bool lo.isSome) := (blk_cell HI3.out.1 2).trans rfl
            have m3 : wr.cell? ⟨W.heap.size, 3, none⟩ = some (.bool hi.isSome) := (blk_cell HI3.out.1 3).trans rfl
            have hc2 : wr.cell? (ad2.add m) = some (.int .i64 kids[m]) := by
              have e : rd kids ((m : Nat) : Int) = kids[m] := by
                unfold rd
                rw [Int.toNat_natCast, List.getD_eq_getElem?_getD, List.getElem?_eq_getElem hlt]
                rfl
              rw [e] at hc2
              exact hc2
            have HKM := Aside0.mk (HK.out m hlt)
            have m0' : True := trivial
            have w2a : ∀ c : Array Value, (wr.alloc (.cells c 96)).cell? ⟨W.heap.size + 1, 2, none⟩ = some (.slice (some ad2) kids.length c2) := fun c => pw_cell_below (below_mk (Below.refl _ _) _) n2
            have k2a : ∀ c : Array Value, (wr.alloc (.cells c 96)).cell? (ad2.add m) = some (.int .i64 kids[m]) := fun c => pw_cell_below (below_mk (Below.refl _ _) _) hc2
            by_cases hmk : m < keys.length
            · have b3 : decide (((m : Nat) : Int) < ((keys.length : Nat) : Int)) = true := decide_eq_true (by omega)
              have r1 : (((m : Nat) : Int) < ((keys.length : Nat) : Int)) = True := eq_true (by omega)
              have C1' := Kd.C_below C1 HI3.out.2.2.1.2.2
              obtain ⟨ad1, rfl, hk1⟩ := Kd.at_string C1' m (by omega) (by omega)
              have hk1 : wr.cell? (ad1.add m) = some (.string keys[m]) := by
                rw [rdOf_eq _ _ hmk] at hk1
                exact hk1
              have w1a : ∀ c : Array Value, (wr.alloc (.cells c 96)).cell? ⟨W.heap.size + 1, 1, none⟩ = some (.slice (some ad1) keys.length c1) := fun c => pw_cell_below (below_mk (Below.refl _ _) _) n1
              have k1a : ∀ c : Array Value, (wr.alloc (.cells c 96)).cell? (ad1.add m) = some (.string keys[m]) := fun c => pw_cell_below (below_mk (Below.refl _ _) _) hk1
              by_cases hm0 : m = 0
              · have e0 : decide ((0 : Int) < ((m : Nat) : Int)) = false := decide_eq_false (by omega)
                have e0n : decide (0 < m) = false := decide_eq_false (by omega)
                clear C1' hk1
                have HKV : Aside0 (∀ W', FormI w0 F (some ad) r.length cn order dep' kv' (acc ++ (List.range m).flatMap L) W' → Calls Try.prog 38 #[.pointer (some ⟨F, 0, none⟩), .int .i64 kids[m], .int .i64 ((depth : Nat) + 1 : Int), .agg #[.string (lo.getD ⟨#[]⟩), .string keys[m], .bool lo.isSome, .bool true]] W' fun e W'' => e = .returned (.tuple #[]) ∧ Keep9 F W' W'' ∧ ∃ kv'', FormI w0 F (some ad) r.length cn order (depth + d) kv'' (acc ++ (List.range (m + 1)).flatMap L) W'') := ⟨fun W' h => by
                  have := HKM.out dep' kv' W' h HD.out.1
                  rw [if_pos hm0, if_pos hmk, List.getElem?_eq_getElem hmk] at this
                  exact this⟩
                have HI4 : Aside0 (NodeI w0 F (some ad) r.length cn order W.heap.size (W.heap.size + 1) lo hi false (some ad1) keys.length c1 (some ad2) kids.length c2 W dep' kv' (acc ++ (List.range m).flatMap L) (wr.alloc (.cells #[.string (lo.getD ⟨#[]⟩), .string keys[m], .bool lo.isSome, .bool true] 96))) := ⟨HI3.out.below (below_mk (Below.refl _ _) _)⟩
                clear HKM HI3 m0' HD
                try clear hm0
                go_wp2
                have t2 := w2a #[.string (lo.getD ⟨#[]⟩), .string keys[m], .bool lo.isSome, .bool true]
                have tk := k2a #[.string (lo.getD ⟨#[]⟩), .string keys[m], .bool lo.isSome, .bool true]
                have hn4 := heap_alloc_new wr (.cells #[.string (lo.getD ⟨#[]⟩), .string keys[m], .bool lo.isSome, .bool true] 96)
                have t5 : (wr.alloc (.cells #[.string (lo.getD ⟨#[]⟩), .string keys[m], .bool lo.isSome, .bool true] 96)).cell? ⟨wr.heap.size, 0, none⟩ = some (.string (lo.getD ⟨#[]⟩)) := (blk_cell hn4 0).trans rfl
                have t6 : (wr.alloc (.cells #[.string (lo.getD ⟨#[]⟩), .string keys[m], .bool lo.isSome, .bool true] 96)).cell? ⟨wr.heap.size, 1, none⟩ = some (.string keys[m]) := (blk_cell hn4 1).trans rfl
                have t7 : (wr.alloc (.cells #[.string (lo.getD ⟨#[]⟩), .string keys[m], .bool lo.isSome, .bool true] 96)).cell? ⟨wr.heap.size, 2, none⟩ = some (.bool lo.isSome) := (blk_cell hn4 2).trans rfl
                have t8 : (wr.alloc (.cells #[.string (lo.getD ⟨#[]⟩), .string keys[m], .bool lo.isSome, .bool true] 96)).cell? ⟨wr.heap.size, 3, none⟩ = some (.bool true) := (blk_cell hn4 3).trans rfl
                clear w2a k2a hn4
                generalize wr.alloc (.cells #[.string (lo.getD ⟨#[]⟩), .string keys[m], .bool lo.isSome, .bool true] 96) = W4 at *
                have HID := Aside0.mk (HI4.out.below (below_drew (Below.refl _ _)))
                have dw : wrap64 ((depth : Nat) + 1 : Int) = ((depth : Nat) : Int) + 1 := wrap_small _ (by omega) (by omega)
                go_still_tail 9, (by kernel_rfl)
                change wpList _ _ _ _ _ W4.drew
                clear t2 tk t5 t6 t7 t8 HI4 dw
                generalize W4.drew = W5 at *
                go_wp2_with fail
                refine (HKV.out _ HID.out.2.2.1).mono ?_
                rintro e w5 ⟨rfl, hKp, kv5, hF5⟩
                have HI5 : Aside0 (NodeI w0 F (some ad) r.length cn order W.heap.size (W.heap.size + 1) lo hi false (some ad1) keys.length c1 (some ad2) kids.length c2 W (depth + d) kv5 (acc ++ (List.range (m + 1)).flatMap L) w5) := by
                  have h4 := HID.out
                  exact ⟨hKp.2 _ 96 _ (by have := h4.2.2.2.2.1; omega) (by decide) h4.1, hKp.2 _ 43 _ (by have := h4.2.2.2.2; omega) (by decide) h4.2.1, hF5, h4.2.2.2.1.trans hKp, h4.2.2.2.2⟩
                clear hKp hF5 HKV HID
                go_wp2
                go_roundw
                case measure => show kids.length - (m + 1) < kids.length - m; omega
                case rel => exact ⟨m + 1, depth + d, kv5, by first | rfl | (simp; done) | (congr 1), by omega, HI5, ⟨.inr rfl, fun _ => rfl⟩⟩
              · obtain ⟨m', hmm⟩ : ∃ m', m = m' + 1 := ⟨m - 1, by omega⟩
                have e0 : decide ((0 : Int) < ((m : Nat) : Int)) = true := decide_eq_true (by omega)
                have e0n : decide (0 < m) = true := decide_eq_true (by omega)
                have s1 : ((1 : Int) ≤ ((m : Nat) : Int)) = True := eq_true (by omega)
                have s2 : ((0 : Int) ≤ ((m : Nat) : Int) - 1) = True := eq_true (by omega)
                have s3 : (((m : Nat) : Int) - 1 < ((keys.length : Nat) : Int)) = True := eq_true (by omega)
                have s4 : 1 ≤ m := by omega
                have s5 : (((m : Nat) : Int) - 1).toNat = m' := by omega
                have s6 : m - 1 = m' := by omega
                have HMM := Aside0.mk hmm
                clear hmm
                have hmp : m' < keys.length := by have := HMM.out; omega
                have hkp : wr.cell? (ad1.add m') = some (.string keys[m']) := by
                  obtain ⟨ad1', e1, hk2⟩ := Kd.at_string C1' m' (by omega) (by omega)
                  cases e1
                  rw [rdOf_eq _ _ hmp] at hk2
                  exact hk2
                have k1b : ∀ c : Array Value, (wr.alloc (.cells c 96)).cell? (ad1.add m') = some (.string keys[m']) := fun c => pw_cell_below (below_mk (Below.refl _ _) _) hkp
                have k1c : ∀ c : Array Value, (wr.alloc (.cells c 96)).cell? (ad1.add (m - 1)) = some (.string keys[m']) := fun c => by rw [s6]; exact k1b c
                clear s5 s6
                clear C1' hk1 hkp hm0
                have HKV : Aside0 (∀ W', FormI w0 F (some ad) r.length cn order dep' kv' (acc ++ (List.range m).flatMap L) W' → Calls Try.prog 38 #[.pointer (some ⟨F, 0, none⟩), .int .i64 kids[m], .int .i64 ((depth : Nat) + 1 : Int), .agg #[.string keys[m'], .string keys[m], .bool true, .bool true]] W' fun e W'' => e = .returned (.tuple #[]) ∧ Keep9 F W' W'' ∧ ∃ kv'', FormI w0 F (some ad) r.length cn order (depth + d) kv'' (acc ++ (List.range (m + 1)).flatMap L) W'') := ⟨fun W' h => by
                  have := HKM.out dep' kv' W' h HD.out.1
                  rw [if_neg (show ¬ m = 0 by omega), if_pos hmk, List.getElem?_eq_getElem hmk, show m - 1 = m' by have := HMM.out; omega, List.getElem?_eq_getElem hmp] at this
                  exact this⟩
                have HI4 : Aside0 (NodeI w0 F (some ad) r.length cn order W.heap.size (W.heap.size + 1) lo hi false (some ad1) keys.length c1 (some ad2) kids.length c2 W dep' kv' (acc ++ (List.range m).flatMap L) (wr.alloc (.cells #[.string keys[m'], .string keys[m], .bool true, .bool true] 96))) := ⟨HI3.out.below (below_mk (Below.refl _ _) _)⟩
                clear HKM HI3 m0' HD
                try clear hm0
                go_wp2
                have t2 := w2a #[.string keys[m'], .string keys[m], .bool true, .bool true]
                have tk := k2a #[.string keys[m'], .string keys[m], .bool true, .bool true]
                have hn4 := heap_alloc_new wr (.cells #[.string keys[m'], .string keys[m], .bool true, .bool true] 96)
                have t5 : (wr.alloc (.cells #[.string keys[m'], .string keys[m], .bool true, .bool true] 96)).cell? ⟨wr.heap.size, 0, none⟩ = some (.string keys[m']) := (blk_cell hn4 0).trans rfl
                have t6 : (wr.alloc (.cells #[.string keys[m'], .string keys[m], .bool true, .bool true] 96)).cell? ⟨wr.heap.size, 1, none⟩ = some (.string keys[m]) := (blk_cell hn4 1).trans rfl
                have t7 : (wr.alloc (.cells #[.string keys[m'], .string keys[m], .bool true, .bool true] 96)).cell? ⟨wr.heap.size, 2, none⟩ = some (.bool true) := (blk_cell hn4 2).trans rfl
                have t8 : (wr.alloc (.cells #[.string keys[m'], .string keys[m], .bool true, .bool true] 96)).cell? ⟨wr.heap.size, 3, none⟩ = some (.bool true) := (blk_cell hn4 3).trans rfl
                clear w2a k2a hn4
                generalize wr.alloc (.cells #[.string keys[m'], .string keys[m], .bool true, .bool true] 96) = W4 at *
                have HID := Aside0.mk (HI4.out.below (below_drew (Below.refl _ _)))
                have dw : wrap64 ((depth : Nat) + 1 : Int) = ((depth : Nat) : Int) + 1 := wrap_small _ (by omega) (by omega)
                go_still_tail 9, (by kernel_rfl)
                change wpList _ _ _ _ _ W4.drew
                clear t2 tk t5 t6 t7 t8 HI4 dw
                generalize W4.drew = W5 at *
                go_wp2_with fail
                refine (HKV.out _ HID.out.2.2.1).mono ?_
                rintro e w5 ⟨rfl, hKp, kv5, hF5⟩
                have HI5 : Aside0 (NodeI w0 F (some ad) r.length cn order W.heap.size (W.heap.size + 1) lo hi false (some ad1) keys.length c1 (some ad2) kids.length c2 W (depth + d) kv5 (acc ++ (List.range (m + 1)).flatMap L) w5) := by
                  have h4 := HID.out
                  exact ⟨hKp.2 _ 96 _ (by have := h4.2.2.2.2.1; omega) (by decide) h4.1, hKp.2 _ 43 _ (by have := h4.2.2.2.2; omega) (by decide) h4.2.1, hF5, h4.2.2.2.1.trans hKp, h4.2.2.2.2⟩
                clear hKp hF5 HKV HID
                go_wp2
                go_roundw
                case measure => show kids.length - (m + 1) < kids.length - m; omega
                case rel => exact ⟨m + 1, depth + d, kv5, by first | rfl | (simp; done) | (congr 1), by omega, HI5, ⟨.inr rfl, fun _ => rfl⟩⟩
            · have hml : m = keys.length := by have h8 : kids.length = keys.length + 1 := HK1.out; omega
              have b3 : decide (((m : Nat) : Int) < ((keys.length : Nat) : Int)) = false := decide_eq_false (by omega)
              have hpos := HK0.out
              obtain ⟨m', hmm⟩ : ∃ m', m = m' + 1 := ⟨m - 1, by omega⟩
              have e0 : decide ((0 : Int) < ((m : Nat) : Int)) = true := decide_eq_true (by omega)
              have e0n : decide (0 < m) = true := decide_eq_true (by omega)
              have s1 : ((1 : Int) ≤ ((m : Nat) : Int)) = True := eq_true (by omega)
              have s2 : ((0 : Int) ≤ ((m : Nat) : Int) - 1) = True := eq_true (by omega)
              have s3 : (((m : Nat) : Int) - 1 < ((keys.length : Nat) : Int)) = True := eq_true (by omega)
              have s4 : 1 ≤ m := by omega
              have s5 : (((m : Nat) : Int) - 1).toNat = m' := by omega
              have s6 : m - 1 = m' := by omega
              have HMM := Aside0.mk hmm
              clear hmm
              have hmp : m' < keys.length := by have := HMM.out; omega
              obtain ⟨ad1, rfl, hkp⟩ := Kd.at_string (Kd.C_below C1 HI3.out.2.2.1.2.2) m' (by omega) (by omega)
              have hkp : wr.cell? (ad1.add m') = some (.string keys[m']) := by
                rw [rdOf_eq _ _ hmp] at hkp
                exact hkp
              have w1a : ∀ c : Array Value, (wr.alloc (.cells c 96)).cell? ⟨W.heap.size + 1, 1, none⟩ = some (.slice (some ad1) keys.length c1) := fun c => pw_cell_below (below_mk (Below.refl _ _) _) n1
              have k1b : ∀ c : Array Value, (wr.alloc (.cells c 96)).cell? (ad1.add m') = some (.string keys[m']) := fun c => pw_cell_below (below_mk (Below.refl _ _) _) hkp
              have k1c : ∀ c : Array Value, (wr.alloc (.cells c 96)).cell? (ad1.add (m - 1)) = some (.string keys[m']) := fun c => by rw [s6]; exact k1b c
              clear s5 s6
              clear hkp hml
              have HKV : Aside0 (∀ W', FormI w0 F (some ad) r.length cn order dep' kv' (acc ++ (List.range m).flatMap L) W' → Calls Try.prog 38 #[.pointer (some ⟨F, 0, none⟩), .int .i64 kids[m], .int .i64 ((depth : Nat) + 1 : Int), .agg #[.string keys[m'], .string (hi.getD ⟨#[]⟩), .bool true, .bool hi.isSome]] W' fun e W'' => e = .returned (.tuple #[]) ∧ Keep9 F W' W'' ∧ ∃ kv'', FormI w0 F (some ad) r.length cn order (depth + d) kv'' (acc ++ (List.range (m + 1)).flatMap L) W'') := ⟨fun W' h => by
                have := HKM.out dep' kv' W' h HD.out.1
                rw [if_neg (show ¬ m = 0 by omega), if_neg hmk, show m - 1 = m' by have := HMM.out; omega, List.getElem?_eq_getElem hmp] at this
                exact this⟩
              have HI4 : Aside0 (NodeI w0 F (some ad) r.length cn order W.heap.size (W.heap.size + 1) lo hi false (some ad1) keys.length c1 (some ad2) kids.length c2 W dep' kv' (acc ++ (List.range m).flatMap L) (wr.alloc (.cells #[.string keys[m'], .string (hi.getD ⟨#[]⟩), .bool true, .bool hi.isSome] 96))) := ⟨HI3.out.below (below_mk (Below.refl _ _) _)⟩
              clear HKM HI3 m0' HD
              try clear hm0
              go_wp2
              have t2 := w2a #[.string keys[m'], .string (hi.getD ⟨#[]⟩), .bool true, .bool hi.isSome]
              have tk := k2a #[.string keys[m'], .string (hi.getD ⟨#[]⟩), .bool true, .bool hi.isSome]
              have hn4 := heap_alloc_new wr (.cells #[.string keys[m'], .string (hi.getD ⟨#[]⟩), .bool true, .bool hi.isSome] 96)
              have t5 : (wr.alloc (.cells #[.string keys[m'], .string (hi.getD ⟨#[]⟩), .bool true, .bool hi.isSome] 96)).cell? ⟨wr.heap.size, 0, none⟩ = some (.string keys[m']) := (blk_cell hn4 0).trans rfl
              have t6 : (wr.alloc (.cells #[.string keys[m'], .string (hi.getD ⟨#[]⟩), .bool true, .bool hi.isSome] 96)).cell? ⟨wr.heap.size, 1, none⟩ = some (.string (hi.getD ⟨#[]⟩)) := (blk_cell hn4 1).trans rfl
              have t7 : (wr.alloc (.cells #[.string keys[m'], .string (hi.getD ⟨#[]⟩), .bool true, .bool hi.isSome] 96)).cell? ⟨wr.heap.size, 2, none⟩ = some (.bool true) := (blk_cell hn4 2).trans rfl
              have t8 : (wr.alloc (.cells #[.string keys[m'], .string (hi.getD ⟨#[]⟩), .bool true, .bool hi.isSome] 96)).cell? ⟨wr.heap.size, 3, none⟩ = some (.bool hi.isSome) := (blk_cell hn4 3).trans rfl
              clear w2a k2a hn4
              generalize wr.alloc (.cells #[.string keys[m'], .string (hi.getD ⟨#[]⟩), .bool true, .bool hi.isSome] 96) = W4 at *
              have HID := Aside0.mk (HI4.out.below (below_drew (Below.refl _ _)))
              have dw : wrap64 ((depth : Nat) + 1 : Int) = ((depth : Nat) : Int) + 1 := wrap_small _ (by omega) (by omega)
              go_still_tail 9, (by kernel_rfl)
              change wpList _ _ _ _ _ W4.drew
              clear t2 tk t5 t6 t7 t8 HI4 dw
              generalize W4.drew = W5 at *
              go_wp2_with fail
              refine (HKV.out _ HID.out.2.2.1).mono ?_
              rintro e w5 ⟨rfl, hKp, kv5, hF5⟩
              have HI5 : Aside0 (NodeI w0 F (some ad) r.length cn order W.heap.size (W.heap.size + 1) lo hi false (some ad1) keys.length c1 (some ad2) kids.length c2 W (depth + d) kv5 (acc ++ (List.range (m + 1)).flatMap L) w5) := by
                have h4 := HID.out
                exact ⟨hKp.2 _ 96 _ (by have := h4.2.2.2.2.1; omega) (by decide) h4.1, hKp.2 _ 43 _ (by have := h4.2.2.2.2; omega) (by decide) h4.2.1, hF5, h4.2.2.2.1.trans hKp, h4.2.2.2.2⟩
              clear hKp hF5 HKV HID
              go_wp2
              go_roundw
              case measure => show kids.length - (m + 1) < kids.length - m; omega
              case rel => exact ⟨m + 1, depth + d, kv5, by first | rfl | (simp; done) | (congr 1), by omega, HI5, ⟨.inr rfl, fun _ => rfl⟩⟩
          · have b2 : decide (((m : Nat) : Int) < ((kids.length : Nat) : Int)) = false := decide_eq_false (by omega)
            obtain rfl : m = kids.length := by omega
            have hdd : dep' = depth + d := HD.out.2 hk0
            subst hdd
            go_wp2
            go_end0
            exact ⟨rfl, HI3.out.2.2.2.1, _, HI3.out.2.2.1⟩
end Go.Proofs.Ytjabcdfbncglnaa
namespace Go.Proofs.Ytjabcdfbncglnaa
open Go.RowKit Go.Proofs.YtjabcdfbncglnaaW.PrintWords Go.Proofs.YtjabcdfbncglnaaW.PrintLast Go.Proofs.YtjabcdfbncglnaaW.PrintMore
open PTreeRanks (S59 k59 z59 S43 k43 z43)
set_option linter.unusedVariables false
set_option linter.unusedSimpArgs false

theorem range_flatMap_le {α : Type} (L : Nat → List α) : ∀ {m n : Nat}, m ≤ n → ((List.range m).flatMap L).length ≤ ((List.range n).flatMap L).length
  | m, 0, h => by obtain rfl : m = 0 := by omega
                  exact Nat.le_refl _
  | m, n + 1, h => by
    by_cases e : m = n + 1
    · subst e; exact Nat.le_refl _
    · have := range_flatMap_le L (show m ≤ n by omega)
      rw [List.range_succ, List.flatMap_append, List.length_append]
      omega
theorem range_flatMap_get {α β : Type} (f : α → List β) : ∀ (cs : List α) (g : Nat → List β), (∀ m c, cs[m]? = some c → g m = f c) → (List.range cs.length).flatMap g = cs.flatMap f
  | [], _, _ => rfl
  | c :: cs, g, h => by
    have ih := range_flatMap_get f cs (fun m => g (m + 1)) (fun m c hm => h (m + 1) c (by simpa using hm))
    rw [List.length_cons, List.range_succ_eq_map, List.flatMap_cons, List.flatMap_map, List.flatMap_cons, h 0 c rfl]
    congr 1

/-- The keys of the kid with a number. -/
def kidL {d : Nat} (cs : List (T d)) (m : Nat) : List ByteArray := match cs[m]? with | some c => keysOf (toList d c) | none => []
theorem kidL_get {d : Nat} {cs : List (T d)} {m : Nat} {c : T d} (h : cs[m]? = some c) : kidL cs m = keysOf (toList d c) := by unfold kidL; rw [h]
theorem kidL_all {d : Nat} (cs : List (T d)) : (List.range cs.length).flatMap (kidL cs) = keysOf (cs.flatMap (toList d)) := by
  rw [keysOf_flatMap]
  exact range_flatMap_get (fun c => keysOf (toList d c)) cs _ (fun m c h => kidL_get h)

theorem rangeI_length (n j : Nat) : (rangeI n j).length = j := by unfold rangeI; rw [List.length_map, List.length_range]
theorem rangeI_get (n j m : Nat) (h : m < (rangeI n j).length) : (rangeI n j)[m] = ((n + m : Nat) : Int) := by
  have e : (rangeI n j)[m]? = some ((n + m : Nat) : Int) := by
    have hj : m < j := by rwa [rangeI_length] at h
    unfold rangeI
    rw [List.getElem?_map, List.getElem?_range hj]
    rfl
  exact (List.getElem?_eq_some_iff.1 e).2

theorem node_ok {w0 : World} {F : Nat} {An : Option Addr} {cn order : Nat} {r : List S43} (h3 : 3 ≤ order) (h4 : order ≤ 64) (hr : Kd.C k43 w0 An r.length r) (hcn : r.length ≤ cn) (hwF : w0.heap.size ≤ F) : ∀ d, NodeOk w0 F An cn order r d
  | 0 => fun l i depth lo hi dep kv acc W hL hW hI hdep hd0 hd1 hacc => by
    obtain ⟨l, rfl⟩ : ∃ l' : List S59, l' = l := ⟨l, rfl⟩
    obtain ⟨hi1, hx⟩ := List.getElem?_eq_some_iff.1 (show r[i]? = some ⟨true, keysOf l, []⟩ from hL)
    obtain ⟨w1, w2, w3, w4⟩ := WF_zero.1 hW
    have hlk := keysOf_length l
    have hacc : acc.length + l.length ≤ 1099511627776 := hacc
    refine node_step h3 h4 hr hcn (i := i) (depth := depth) (d := 0) (lo := lo) (hi := hi) (dep := dep) (kv := kv) (acc := acc) ⟨true, keysOf l, []⟩ hi1 hx hI hdep hd0 hd1 w1 w2 (by show (keysOf l).length ≤ 900; omega) (fun _ => []) (by show (acc ++ keysOf l).length ≤ _; rw [List.length_append]; omega) hwF (fun _ => rfl) (fun h => by cases h) ?_
    intro W' A1 c1 A2 c2 hF
    refine filled_leaf F order (keysOf l).length c1 c2 A1 A2 _ W' h3 h4 hF (by omega) ?_
    by_cases h0 : i = 0
    · subst h0; exact .inl rfl
    · right
      rw [if_neg h0] at w4
      have w4 : order / 2 ≤ l.length := w4
      omega
  | d + 1 => fun t i depth lo hi dep kv acc W hL hW hI hdep hd0 hd1 hacc => by
    obtain ⟨ks, cs, rfl⟩ : ∃ (ks : List ByteArray) (cs : List (T d)), ((ks, cs) : List ByteArray × List (T d)) = t := ⟨t.1, t.2, rfl⟩
    obtain ⟨n, hn0, hxi, hkids⟩ := hL
    obtain ⟨hi1, hx⟩ := List.getElem?_eq_some_iff.1 (show r[i]? = some ⟨false, ks, rangeI n cs.length⟩ from hxi)
    obtain ⟨w1, w2, w3⟩ := WF_succ.1 hW
    have hlen := WK_length w1
    obtain ⟨f1, f2, f3, f4⟩ := WK_facts (toL := toList d) (fun lo hi c => WF_P h3 d lo hi c) w1
    have hmin : 2 ≤ cs.length := by
      rw [if_neg (Nat.succ_ne_zero d)] at w3
      by_cases h0 : i = 0
      · rw [if_pos h0] at w3; exact w3
      · rw [if_neg h0] at w3
        have w3 : (order + 1) / 2 ≤ cs.length := w3
        omega
    have hacc : acc.length + (cs.map (size d)).sum ≤ 1099511627776 := hacc
    have hall := kidL_all cs
    have hsz : ((List.range cs.length).flatMap (kidL cs)).length = (cs.map (size d)).sum := by
      rw [hall, keysOf_length]
      exact (size_eq (d + 1) ((ks, cs) : List ByteArray × List (T d))).symm
    have key := node_step h3 h4 hr hcn (i := i) (depth := depth) (d := d + 1) (lo := lo) (hi := hi) (dep := dep) (kv := kv) (acc := acc) (W := W) ⟨false, ks, rangeI n cs.length⟩ hi1 hx hI hdep hd0 hd1 f1
      (fun k hk => ⟨fun l e => blt_asymm ((f2 k hk).1 l e), (f2 k hk).2⟩) (by show ks.length ≤ 900; omega) (kidL cs)
      (by show (acc ++ (List.range (rangeI n cs.length).length).flatMap (kidL cs)).length ≤ _; rw [rangeI_length, List.length_append, hsz]; exact hacc) hwF (fun h => by cases h) ?_ ?_
    · have e : (acc ++ if (⟨false, ks, rangeI n cs.length⟩ : S43).f0 then (⟨false, ks, rangeI n cs.length⟩ : S43).f1 else (List.range (⟨false, ks, rangeI n cs.length⟩ : S43).f2.length).flatMap (kidL cs)) = acc ++ keysOf (toList (d + 1) ((ks, cs) : List ByteArray × List (T d))) := by
        show acc ++ (List.range (rangeI n cs.length).length).flatMap (kidL cs) = _
        rw [rangeI_length, hall, toList_inner]
      rw [e] at key
      exact key
    · intro _
      refine ⟨by show 0 < ks.length; omega, by show (rangeI n cs.length).length = ks.length + 1; rw [rangeI_length]; exact hlen, ?_⟩
      intro m hm dep' kv' W' hF hdep'
      have hm : m < cs.length := by have h : m < (rangeI n cs.length).length := hm; rwa [rangeI_length] at h
      have hP := WK_get w1 m hm
      have hpre := range_flatMap_le (kidL cs) (show m + 1 ≤ cs.length by omega)
      have hgl := kidL_get (List.getElem?_eq_getElem hm)
      rw [List.range_succ, List.flatMap_append, List.length_append, List.flatMap_singleton, hgl, keysOf_length, ← size_eq, hsz] at hpre
      have ih := node_ok h3 h4 hr hcn hwF d cs[m] (n + m) (depth + 1) (if m = 0 then lo else ks[m - 1]?) (if m < ks.length then ks[m]? else hi) dep' kv' (acc ++ (List.range m).flatMap (kidL cs)) W'
        (hkids m _ (List.getElem?_eq_getElem hm)) (by rw [if_neg (by omega)]; exact hP) hF (by omega) (by omega) (by omega) (by rw [List.length_append]; omega)
      have e1 : (⟨false, ks, rangeI n cs.length⟩ : S43).f2[m]'(by show m < (rangeI n cs.length).length; rwa [rangeI_length]) = ((n + m : Nat) : Int) := rangeI_get n cs.length m (by rwa [rangeI_length])
      have e2 : ((depth : Nat) : Int) + 1 = ((depth + 1 : Nat) : Int) := by omega
      have e3 : depth + 1 + d = depth + (d + 1) := by omega
      have e4 : acc ++ (List.range m).flatMap (kidL cs) ++ keysOf (toList d cs[m]) = acc ++ (List.range (m + 1)).flatMap (kidL cs) := by
        rw [List.range_succ, List.flatMap_append, List.flatMap_singleton, hgl, List.append_assoc]
      rw [e3, e4, ← e2] at ih
      rw [e1]
      exact ih
    · intro W' A1 c1 A2 c2 hF
      show Calls Try.prog 54 #[.pointer (some ⟨F, 0, none⟩), .agg #[.bool false, .slice A1 ks.length c1, .slice A2 (rangeI n cs.length).length c2], .bool (((i : Nat) : Int) == 0)] W' _
      rw [rangeI_length, hlen]
      refine filled_inner F order ks.length c1 c2 A1 A2 _ W' h3 h4 hF (by omega) ?_
      by_cases h0 : i = 0
      · subst h0
        show 2 ≤ ks.length + 1
        omega
      · have e : (((i : Nat) : Int) == 0) = false := by
          apply Bool.eq_false_iff.2
          intro e
          have e : ((i : Nat) : Int) = 0 := by simpa using e
          omega
        rw [e]
        rw [if_neg (Nat.succ_ne_zero d), if_neg h0] at w3
        have w3 : (order + 1) / 2 ≤ cs.length := w3
        show (order + 1) / 2 ≤ ks.length + 1
        omega
end Go.Proofs.Ytjabcdfbncglnaa
