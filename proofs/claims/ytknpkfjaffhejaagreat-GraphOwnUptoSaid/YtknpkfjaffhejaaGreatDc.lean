/- WHAT IS PROVED: what Dangers hands back goes through the dangers, for every loop body that leaves the edges. -/
import Derived.Test.YtknpkfjaffhejaaGreatDn
import Derived.RangeFuncNested
import Derived.RangeFuncBound
import Derived.RangeFuncCalls
import Derived.RangeFuncLeaves
import Derived.RangeFuncFrom
import Derived.Shelf.Abstract
import Derived.Shelf.RegionOpen
import Derived.OwnWalkIn
import Derived.TacticsInMore
import Derived.LoopNIn
import Derived.LoopIn
import Derived.Outline
namespace Go.Proofs.YtknpkfjaffhejaaGreat
open Go.RowKit Go.Shelf Go.Proofs.YtknpkfjaffhejaaGreatW.PrintWords Go.Proofs.YtknpkfjaffhejaaGreatW.PrintLast Go.Proofs.YtknpkfjaffhejaaGreatW.PrintMore
attribute [local go_sem] Oper.semAt_some
set_option linter.unusedVariables false
set_option linter.unusedSimpArgs false

theorem room_of_none {F : Fence} (hd : F.depth = none) (k : Nat) : F.room k := fun d h => by rw [hd] at h; cases h
theorem RoundIn.anyDepth {F : Fence} (hd : F.depth = none) {m m' : Nat} {P : Program} {l : Nat} {f : FuncId} {tmps : Array Value} {assign body : Code} {w : World} {R : Ending → World → Prop}
    (h : RoundIn F m P l f tmps assign body w R) : RoundIn F m' P l f tmps assign body w R := ⟨h.1, fun c cs _ => h.2 c cs (room_of_none hd _)⟩
theorem YieldAt.anyDepth {F : Fence} (hd : F.depth = none) {m : Nat} (m' : Nat) {P : Program} {l : Nat} {args : Array Value} {W : World} {R : Ending → World → Prop} (h : YieldAt F m P l args W R) : YieldAt F m' P l args W R := by
  obtain ⟨fn, tmps, assign, body, hy, hR⟩ := h
  exact ⟨fn, tmps, assign, body, hy, RoundIn.anyDepth hd hR⟩
theorem abides_alloc {β : Type} {B : Nat} {J : β → World → Prop} (hJ : AbidesFrom B J) (s : β) (W : World) (o : Obj) (h : J s W) : J s (W.alloc o) :=
  hJ s W _ none h (World.grownBy_alloc W o none) (fun r e => by cases e)

/-- The dangers of edges. -/
def dangF (V U : List Edge) : List (Edge × Edge) := U.flatMap fun x => (grp x.q V).map fun y => (x, y)
def dangersE (V : List Edge) : List (Edge × Edge) := dangF V V
def okE (e : Edge) : Prop := okS e.p ∧ okS e.q ∧ wfN e.n ∧ wfN e.m
/-- A danger. -/
abbrev DD := { x : Edge × Edge // okE x.1 ∧ okE x.2 }
def encD (x : Edge × Edge) : List Value := encE x.1 ++ encE x.2

/-- What a round of a loop over the dangers leaves: what Dangers laid, and every edge's block. -/
def KpE (n0 n1 : Nat) (W W' : World) : Prop := (∀ k, n0 ≤ k → k < n1 → W'.heap[k]? = W.heap[k]?) ∧ ∀ (k : Nat) (cs : Array Value) (fr : Nat × Nat), W.heap[k]? = some (Obj.cells cs 39 fr) → W'.heap[k]? = W.heap[k]?
theorem KpE.refl (n0 n1 : Nat) (W : World) : KpE n0 n1 W W := ⟨fun _ _ _ => rfl, fun _ _ _ _ => rfl⟩
theorem KpE.trans {n0 n1 : Nat} {A B C : World} (h : KpE n0 n1 A B) (k : KpE n0 n1 B C) : KpE n0 n1 A C :=
  ⟨fun i a b => (k.1 i a b).trans (h.1 i a b), fun i cs fr e => (k.2 i cs fr ((h.2 i cs fr e).trans e)).trans (h.2 i cs fr e)⟩
theorem KpE.below {n0 n1 : Nat} {W W' : World} (h : Below W.heap.size W W') (hn : n1 ≤ W.heap.size) : KpE n0 n1 W W' :=
  ⟨fun k _ b => h.block k (by omega), fun k cs fr e => h.block k (blk_lt e)⟩
theorem KpE.alloc {n0 n1 : Nat} {W W' : World} (h : KpE n0 n1 W W') (hn : n1 ≤ W'.heap.size) (o : Obj) : KpE n0 n1 W (W'.alloc o) := h.trans (KpE.below (below_mk (Below.refl _ W') o) hn)

theorem DgAt.keep {n0 : Nat} {V : List Edge} {f : Value} {W W' : World} (h : DgAt n0 V f W) (hk : KpE n0 W.heap.size W W') : DgAt n0 V f W' := by
  obtain ⟨b1, b3, bm, v, base, rfl, h1, h3, hm, hb, hn1, hn3, hE, n, ks, g, q1, q2, q3, q4, q5⟩ := h
  refine ⟨b1, b3, bm, v, base, rfl, h1, h3, hm, hb, (hk.1 _ h1 (blk_lt hn1)).trans hn1, (hk.1 _ h3 (blk_lt hn3)).trans hn3, hE.keep (fun k a b _ => hk.1 k a b), n, ks, g, q1, q2, q3.below (hk.1 _ hm q3.lt), fun s hs => ?_, q5⟩
  obtain ⟨e1, e2⟩ := q4 s hs
  refine ⟨e1, ?_⟩
  rcases e2 with e2 | ⟨gg, cap, cur, a1, a2, a3, a4⟩
  · exact .inl e2
  · exact .inr ⟨gg, cap, cur, a1, a2, (hk.1 gg (by omega) (blk_lt a3)).trans a3, a4⟩

/-- What the walk asks of the world, between two rounds. -/
theorem DgAt.reads {n0 : Nat} {V : List Edge} {b1 b3 : Nat} {W : World} (h : DgAt n0 V (.func (.func 30) #[] #[.pointer (some ⟨b1, 0, none⟩), .pointer (some ⟨b3, 0, none⟩)]) W) :
    ∃ (bm : Nat) (A : Option Addr) (c : Nat) (g : ByteArray → Value), ∀ W', KpE n0 W.heap.size W W' → W'.cell? ⟨b1, 0, none⟩ = some (.slice A V.length c) ∧ W'.cell? ⟨b3, 0, none⟩ = some (.map (some bm)) ∧ EdR n0 W' (.slice A V.length c) V ∧
      ∀ s, okS s → Sem.run Tryz.prog (Instr.lookup 64 (.map (some bm)) (.string s) false) W' = .ok (g s) W' ∧ EdR n0 W' (g s) (grp s V) := by
  obtain ⟨b1', b3', bm, v, base, e, h1, h3, hm, hb, hn1, hn3, hE, n, ks, g, q1, q2, q3, q4, q5⟩ := h
  simp at e
  obtain ⟨rfl, rfl⟩ := e
  have hE' := hE
  obtain ⟨A, c, rfl, _⟩ := hE'
  refine ⟨bm, A, c, g, fun W' hk => ⟨(blk_cell ((hk.1 _ h1 (blk_lt hn1)).trans hn1) 0).trans rfl, (blk_cell ((hk.1 _ h3 (blk_lt hn3)).trans hn3) 0).trans rfl, hE.keep (fun k a b _ => hk.1 k a b), fun s hs => ⟨(q3.below (hk.1 _ hm q3.lt)).look keyS Tryz.underlying64 (zv22 _) hs, ?_⟩⟩⟩
  obtain ⟨e1, e2⟩ := q4 s hs
  rcases e2 with ⟨e2, e3⟩ | ⟨gg, cap, cur, a1, a2, a3, a4, a5, a6, a7⟩
  · rw [e2]
    exact EdR.nil none 0 (List.length_eq_zero_iff.1 e3)
  · rw [a1]
    refine ⟨_, cap, rfl, fun _ => ⟨gg, 0, rfl, by omega, fun j u hj => ?_⟩⟩
    rw [Nat.zero_add, blk_cell ((hk.1 gg (by omega) (blk_lt a3)).trans a3), ← Array.getElem?_toList]
    rw [← a7, List.getElem?_take] at hj
    split at hj
    · exact hj
    · cases hj

theorem dangF_succ (V : List Edge) (i : Nat) (hi : i < V.length) : dangF V (V.take (i + 1)) = dangF V (V.take i) ++ (grp V[i]!.q V).map fun y => (V[i]!, y) := by
  rw [getElem!_pos V i hi, List.take_succ_eq_append_getElem hi]
  unfold dangF
  rw [List.flatMap_append]
  simp only [List.flatMap_cons, List.flatMap_nil, List.append_nil]

theorem dangF_pref (V : List Edge) (i : Nat) (hi : i < V.length) : ∃ z, dangersE V = dangF V (V.take i) ++ ((grp V[i]!.q V).map fun y => (V[i]!, y)) ++ z := by
  refine ⟨dangF V (V.drop (i + 1)), ?_⟩
  rw [← dangF_succ V i hi]
  conv => lhs; rw [dangersE, ← List.take_append_drop (i + 1) V]
  unfold dangF
  rw [List.flatMap_append, List.take_append_drop]

theorem KpE.size {n0 n1 : Nat} {W W' : World} (h : KpE n0 n1 W W') (h0 : n0 < n1) (hn : n1 ≤ W.heap.size) : n1 ≤ W'.heap.size := by
  have h1 := h.1 (n1 - 1) (by omega) (by omega)
  rw [Array.getElem?_eq_getElem (show n1 - 1 < W.heap.size by omega)] at h1
  have := (Array.getElem?_eq_some_iff.1 h1).1
  omega
theorem DgAt.lt {n0 : Nat} {V : List Edge} {f : Value} {W : World} (h : DgAt n0 V f W) : n0 < W.heap.size := by
  obtain ⟨b1, b3, bm, v, base, rfl, h1, h3, hm, hb, hn1, _⟩ := h
  have := blk_lt hn1
  omega

set_option maxRecDepth 100000 in
set_option maxHeartbeats 8000000 in
theorem dg_stops {n0 : Nat} {V : List Edge} {b1 b3 : Nat} {w : World} (h : DgAt n0 V (.func (.func 30) #[] #[.pointer (some ⟨b1, 0, none⟩), .pointer (some ⟨b3, 0, none⟩)]) w) (hV : ∀ e ∈ V, okE e) (hl : V.length ≤ 1048576) (n : Nat) :
    SeqStopsK Fence.wide n Tryz.prog 30 #[.pointer (some ⟨b1, 0, none⟩), .pointer (some ⟨b3, 0, none⟩)] (fun x : DD => #[.agg (encD x.1).toArray]) (KpE n0 w.heap.size) (fun ys => ys.map (·.1) = dangersE V) (fun pre => pre.map (·.1) <+: dangersE V) (dangersE V).length w := fun l' J Jx W hW hJ hJx hY h0 => by
  obtain ⟨bm, A, c, g, hr⟩ := h.reads
  have HD : Aside0 (∀ W', KpE n0 w.heap.size W W' → W'.cell? ⟨b1, 0, none⟩ = some (.slice A V.length c) ∧ W'.cell? ⟨b3, 0, none⟩ = some (.map (some bm)) ∧ EdR n0 W' (.slice A V.length c) V ∧
      ∀ s, okS s → Sem.run Tryz.prog (Instr.lookup 64 (.map (some bm)) (.string s) false) W' = .ok (g s) W' ∧ EdR n0 W' (g s) (grp s V)) := ⟨fun W' hk => hr W' ((KpE.below hW (Nat.le_refl _)).trans hk)⟩
  have HY : Aside0 (∀ m (pre : List DD) x W, J pre W → pre.length < (dangersE V).length → YieldAt Fence.wide m Tryz.prog l' #[.agg (encD x.1).toArray] W fun e W' => (e = .returned (.bool true) ∧ J (pre ++ [x]) W' ∧ KpE n0 w.heap.size W W') ∨ (e = .returned (.bool false) ∧ Jx (pre ++ [x]) W')) := ⟨fun m pre x W hj hl => YieldAt.anyDepth rfl m (hY pre x W hj hl)⟩
  have HJA : Aside0 (∀ pre W o, J pre W → J pre (W.alloc o)) := ⟨fun pre W o hj => abides_alloc hJ pre W o hj⟩
  have HV := Aside0.mk hV
  have HWS : Aside0 (∀ W', KpE n0 w.heap.size W W' → w.heap.size ≤ W'.heap.size) := ⟨fun W' hk => hk.size h.lt hW.size⟩
  have HJ0 := Aside0.mk h0
  have r1 := (HD.out W (KpE.refl _ _ W)).1
  clear h hW hJ hJx hY h0 hV hr
  refine callsIn_of_wp Tryz.func30 rfl trivial ?_ rfl
  simp only [Tryz.ntmps30, List.size_toArray, List.length_cons, List.length_nil, Nat.reduceAdd, Nat.reduceSub, Array.replicate_succ, Array.replicate_zero, List.push_toArray, List.append_toArray, List.nil_append, List.cons_append]
  gi_wp2_with fail
  gi_loopw [10] (fun v wr => ∃ i : Nat, v = .int .i64 (i : Nat) ∧ i ≤ V.length ∧ ∃ pre : List DD, Aside0 (pre.map (·.1) = dangF V (V.take i)) ∧ Aside0 (J pre wr ∧ KpE n0 w.heap.size W wr)) (fun v wr => V.length - (RowKit.intOf v).toNat)
  case atStart => exact ⟨0, rfl, Nat.zero_le _, [], ⟨rfl⟩, ⟨HJ0.out, KpE.refl _ _ _⟩⟩
  case round =>
    obtain ⟨i, rfl, hi, pre, HPRE, HJK⟩ := hrel
    by_cases hlt : i < V.length
    · have d1 : decide (((i : Nat) : Int) < ((V.length : Nat) : Int)) = true := decide_eq_true (by omega)
      have p0 : ((0 : Int) ≤ ((i : Nat) : Int)) = True := eq_true (by omega)
      have p1 : (((i : Nat) : Int) < ((V.length : Nat) : Int)) = True := eq_true (by omega)
      obtain ⟨_, _, hE, _⟩ := HD.out wr HJK.out.2
      obtain ⟨_, bb, off, rfl, y0, y1, y2, y3, y4, y5⟩ := hE.cells i hlt
      have hx : V[i]! ∈ V := by rw [getElem!_pos V i hlt]; exact List.getElem_mem _
      have HTK := Aside0.mk (dangF_succ V i hlt)
      have HPF := Aside0.mk (dangF_pref V i hlt)
      have hxo := HV.out _ hx
      obtain ⟨⟨p, nn, q, m, k, v⟩, hxe⟩ : ∃ x, V[i]! = x := ⟨_, rfl⟩
      rw [hxe] at y0 y1 y2 y3 y4 y5 HTK HPF hxo
      clear hxe hx hE
      have HXO := Aside0.mk hxo
      have HKA : Aside0 (KpE n0 w.heap.size W (wr.alloc (.cells #[.string p, .int .i64 nn, .string q, .int .i64 m, .int .i64 k, .bool v] 39)) ∧ J pre (wr.alloc (.cells #[.string p, .int .i64 nn, .string q, .int .i64 m, .int .i64 k, .bool v] 39))) := ⟨HJK.out.2.alloc (HWS.out _ HJK.out.2) _, HJA.out _ _ _ HJK.out.1⟩
      have hnN := heap_alloc_new wr (.cells #[.string p, .int .i64 nn, .string q, .int .i64 m, .int .i64 k, .bool v] 39)
      obtain ⟨_, c3, _, hlk⟩ := HD.out _ HKA.out.1
      obtain ⟨hlk1, hEg⟩ := hlk q hxo.2.1
      have x2 := (blk_cell hnN 2).trans (show (#[Value.string p, .int .i64 nn, .string q, .int .i64 m, .int .i64 k, .bool v])[2]? = some (.string q) from rfl)
      have hgq : ∃ Ag cg, g q = .slice Ag (grp q V).length cg := by
        obtain ⟨Ag, cg, e, _⟩ := hEg
        exact ⟨Ag, cg, e⟩
      obtain ⟨Ag, cg, hgq⟩ := hgq
      rw [hgq] at hlk1
      have HNN := Aside0.mk hnN
      have HGQ := Aside0.mk hgq
      clear hlk hEg hxo hnN hgq r1
      gi_wp2_with fail
      have hgl : (grp q V).length ≤ 1048576 := Nat.le_trans (List.length_filter_le _ _) hl
      have HXG : Aside0 (∀ y ∈ grp q V, okE y) := ⟨fun y hy => HV.out y (List.mem_filter.1 hy).1⟩
      have HXE := Aside0.mk (show okE ⟨p, nn, q, m, k, v⟩ from HXO.out)
      generalize hN1 : wr.heap.size = N1 at *
      gi_loopw [20] (fun v20 wt => ∃ j : Nat, v20 = .int .i64 (j : Nat) ∧ j ≤ (grp q V).length ∧ ∃ pre : List DD, Aside0 (pre.map (·.1) = dangF V (V.take i) ++ ((grp q V).take j).map fun y => ((⟨p, nn, q, m, k, v⟩ : Edge), y)) ∧ Aside0 (J pre wt ∧ KpE n0 w.heap.size W wt ∧ wt.heap[N1]? = some (.cells #[.string p, .int .i64 nn, .string q, .int .i64 m, .int .i64 k, .bool v] 39 (0, 0)))) (fun v20 wt => (grp q V).length - (RowKit.intOf v20).toNat)
      case atStart => exact ⟨0, rfl, Nat.zero_le _, pre, ⟨by rw [HPRE.out]; simp⟩, ⟨HKA.out.2, HKA.out.1, HNN.out⟩⟩
      case round =>
        clear HKA HNN HPRE HJK hlk1 c3 x2 pre y0 y1 y2 y3 y4 y5 d1 p0 p1 hN1
        obtain ⟨j, rfl, hj, pre, HPRE, HJK⟩ := hrel
        by_cases hjt : j < (grp q V).length
        · have d1 : decide (((j : Nat) : Int) < (((grp q V).length : Nat) : Int)) = true := decide_eq_true (by omega)
          have p0 : ((0 : Int) ≤ ((j : Nat) : Int)) = True := eq_true (by omega)
          have p1 : (((j : Nat) : Int) < (((grp q V).length : Nat) : Int)) = True := eq_true (by omega)
          obtain ⟨hJ, hK, hB1⟩ := HJK.out
          obtain ⟨_, _, _, hlk⟩ := HD.out wr hK
          obtain ⟨_, hE⟩ := hlk q HXO.out.2.1
          rw [HGQ.out] at hE
          obtain ⟨_, bb2, off2, rfl, y0, y1, y2, y3, y4, y5⟩ := hE.cells j hjt
          have hy : (grp q V)[j]! ∈ grp q V := by rw [getElem!_pos (grp q V) j hjt]; exact List.getElem_mem _
          have HTJ : Aside0 ((grp q V).take (j + 1) = (grp q V).take j ++ [(grp q V)[j]!]) := ⟨by rw [getElem!_pos (grp q V) j hjt]; exact List.take_succ_eq_append_getElem hjt⟩
          have hyo := HXG.out _ hy
          obtain ⟨⟨p', n', q', m', k', v'⟩, hye⟩ : ∃ y, (grp q V)[j]! = y := ⟨_, rfl⟩
          rw [hye] at y0 y1 y2 y3 y4 y5 HTJ hyo
          have hsz := HWS.out wr hK
          have hN1lt := blk_lt hB1
          have hKA := hK.alloc hsz (.cells #[.string p', .int .i64 n', .string q', .int .i64 m', .int .i64 k', .bool v'] 39)
          have hJA := HJA.out pre wr (.cells #[.string p', .int .i64 n', .string q', .int .i64 m', .int .i64 k', .bool v'] 39) hJ
          have hB1A : (wr.alloc (.cells #[.string p', .int .i64 n', .string q', .int .i64 m', .int .i64 k', .bool v'] 39)).heap[N1]? = some (.cells #[.string p, .int .i64 nn, .string q, .int .i64 m, .int .i64 k, .bool v] 39 (0, 0)) := (Below.heap_alloc _ _ _ hN1lt).trans hB1
          have hB2A := heap_alloc_new wr (.cells #[.string p', .int .i64 n', .string q', .int .i64 m', .int .i64 k', .bool v'] 39)
          have hpl : pre.length < (dangersE V).length := by
            obtain ⟨z, hz⟩ := HPF.out
            have h1 := congrArg List.length HPRE.out
            rw [hz]
            simp only [List.length_map, List.length_append, List.length_take] at h1 ⊢
            omega
          obtain ⟨fn, tmps, assign, body, hyy, hR⟩ := HY.out (n - 1) pre ⟨(⟨p, nn, q, m, k, v⟩, ⟨p', n', q', m', k', v'⟩), HXE.out, hyo⟩ _ hJA hpl
          have hyy' : Sem.run Tryz.prog (Instr.yield l' #[.agg #[.string p, .int .i64 nn, .string q, .int .i64 m, .int .i64 k, .bool v, .string p', .int .i64 n', .string q', .int .i64 m', .int .i64 k', .bool v']]) (wr.alloc (.cells #[.string p', .int .i64 n', .string q', .int .i64 m', .int .i64 k', .bool v'] 39)) = .ok (.round l' fn tmps assign body) (wr.alloc (.cells #[.string p', .int .i64 n', .string q', .int .i64 m', .int .i64 k', .bool v'] 39)) := hyy
          have HR := Aside0.mk hR
          have a0 := (blk_cell hB1A 0).trans (show (#[Value.string p, .int .i64 nn, .string q, .int .i64 m, .int .i64 k, .bool v])[0]? = some (.string p) from rfl)
          have a1 := (blk_cell hB1A 1).trans (show (#[Value.string p, .int .i64 nn, .string q, .int .i64 m, .int .i64 k, .bool v])[1]? = some (.int .i64 nn) from rfl)
          have a2 := (blk_cell hB1A 2).trans (show (#[Value.string p, .int .i64 nn, .string q, .int .i64 m, .int .i64 k, .bool v])[2]? = some (.string q) from rfl)
          have a3 := (blk_cell hB1A 3).trans (show (#[Value.string p, .int .i64 nn, .string q, .int .i64 m, .int .i64 k, .bool v])[3]? = some (.int .i64 m) from rfl)
          have a4 := (blk_cell hB1A 4).trans (show (#[Value.string p, .int .i64 nn, .string q, .int .i64 m, .int .i64 k, .bool v])[4]? = some (.int .i64 k) from rfl)
          have a5 := (blk_cell hB1A 5).trans (show (#[Value.string p, .int .i64 nn, .string q, .int .i64 m, .int .i64 k, .bool v])[5]? = some (.bool v) from rfl)
          have HEND : Aside0 (∀ W3, KpE n0 w.heap.size (wr.alloc (.cells #[.string p', .int .i64 n', .string q', .int .i64 m', .int .i64 k', .bool v'] 39)) W3 → KpE n0 w.heap.size W W3 ∧ W3.heap[N1]? = some (.cells #[.string p, .int .i64 nn, .string q, .int .i64 m, .int .i64 k, .bool v] 39 (0, 0))) := ⟨fun W3 hk => ⟨hKA.trans hk, (hk.2 _ _ _ hB1A).trans hB1A⟩⟩
          have HPX : Aside0 ((pre ++ [(⟨(⟨p, nn, q, m, k, v⟩, ⟨p', n', q', m', k', v'⟩), HXE.out, hyo⟩ : DD)]).map (·.1) = dangF V (V.take i) ++ ((grp q V).take (j + 1)).map fun y => ((⟨p, nn, q, m, k, v⟩ : Edge), y)) := ⟨by
            rw [List.map_append, HPRE.out, HTJ.out, List.map_append, ← List.append_assoc]
            rfl⟩
          clear hlk hE hy hye hsz hN1lt hKA hJA hB1A hB2A hpl hyy hR hJ hK hB1 HJK
          gi_wp2_with fail
          refine ⟨fun e => (by cases e), HR.out.mono ?_⟩
          rintro e W3 (⟨rfl, hJ3, hk3⟩ | ⟨rfl, hJx3⟩)
          · have HJ3 := Aside0.mk (And.intro hJ3 (HEND.out W3 hk3))
            clear hJ3 hk3 HR a0 a1 a2 a3 a4 a5 y0 y1 y2 y3 y4 y5 hyy'
            gi_wp2_with fail
            go_roundw
            case measure => show (grp q V).length - (j + 1) < (grp q V).length - j; omega
            case rel => exact ⟨j + 1, by first | rfl | (simp; done), by omega, _, HPX, HJ3⟩
          · have HJX := Aside0.mk hJx3
            clear hJx3 HR a0 a1 a2 a3 a4 a5 y0 y1 y2 y3 y4 y5 hyy'
            gi_wp2_with fail
            (try simp only [Exit.inBlock, Exit.then])
            refine bodyPost_ret (results_none rfl _ _ _) rfl ?_
            refine ⟨⟨_, rfl⟩, .inr ⟨_, ?_, HJX.out⟩⟩
            obtain ⟨z, hz⟩ := HPF.out
            rw [HPX.out, hz, List.append_assoc]
            refine List.prefix_append_right_inj _ |>.2 ?_
            conv => rhs; rw [← List.take_append_drop (j + 1) (grp q V), List.map_append, List.append_assoc]
            exact List.prefix_append _ _
        · obtain rfl : j = (grp q V).length := by omega
          have d1 : decide ((((grp q V).length : Nat) : Int) < (((grp q V).length : Nat) : Int)) = false := decide_eq_false (by omega)
          have HF : Aside0 (pre.map (·.1) = dangF V (V.take (i + 1))) := ⟨by rw [HPRE.out, HTK.out, List.take_length]⟩
          have HJ3 : Aside0 (J pre wr ∧ KpE n0 w.heap.size W wr) := ⟨HJK.out.1, HJK.out.2.1⟩
          clear HPRE HJK
          gi_wp2_with fail
          go_roundw
          case measure => show V.length - (i + 1) < V.length - i; omega
          case rel => exact ⟨i + 1, by first | rfl | (simp; done), by omega, pre, HF, HJ3⟩
    · obtain rfl : i = V.length := by omega
      have d1 : decide (((V.length : Nat) : Int) < ((V.length : Nat) : Int)) = false := decide_eq_false (by omega)
      rw [List.take_length] at HPRE
      clear r1
      gi_wp2_with fail
      go_end0
      exact ⟨⟨_, rfl⟩, .inl ⟨pre, HPRE.out, HJK.out.1⟩⟩
end Go.Proofs.YtknpkfjaffhejaaGreat
