/- WHAT IS PROVED: maps.Keys at sites: the iterator over a map's keys. -/
import Derived.Test.YtknpkfjaffhejaaGreatKi
import Derived.Test.YtknpkfjaffhejaaGreatDc
import Derived.Test.YtknpkfjaffhejaaGreatKn
namespace Go.Proofs.YtknpkfjaffhejaaGreat
open Go.RowKit Go.Shelf Go.Proofs.YtknpkfjaffhejaaGreatW.PrintWords Go.Proofs.YtknpkfjaffhejaaGreatW.PrintLast Go.Proofs.YtknpkfjaffhejaaGreatW.PrintMore
attribute [local go_sem] Oper.semAt_some
set_option linter.unusedVariables false
set_option linter.unusedSimpArgs false

abbrev SI := ByteArray × Int
set_option maxRecDepth 100000 in
theorem lits9_inv {d : Nat} {a : Value} {ls : List Lit} (h : Tryz.prog.keyLits (d + 1) 9 [a] = some ls) : ∃ s, a = .string s ∧ okS s := by
  unfold Program.keyLits at h
  rw [Tryz.underlying9] at h
  cases a <;> simp at h
  exact ⟨_, rfl, h.1⟩
set_option maxRecDepth 100000 in
theorem lits3_inv {d : Nat} {a : Value} {ls : List Lit} (h : Tryz.prog.keyLits (d + 1) 3 [a] = some ls) : ∃ n, a = .int .i64 n ∧ wfN n := by
  unfold Program.keyLits at h
  rw [Tryz.underlying3] at h
  cases a <;> simp at h
  obtain ⟨⟨rfl, h⟩, _⟩ := h
  exact ⟨_, rfl, h⟩
set_option maxRecDepth 100000 in
theorem keyI_inv {key : Value} {kl : Lit} (h : keyOf Tryz.prog 37 key = some kl) : ∃ x : SI, key = encI x ∧ okI x := by
  unfold keyOf at h
  rw [Tryz.underlying37] at h
  simp only at h
  split at h
  · rename_i hk
    rw [Bool.and_eq_true] at hk
    obtain ⟨cs, rfl⟩ : ∃ cs, key = .agg cs := by
      have := hk.2
      unfold Value.formed at this
      rw [Tryz.underlying37] at this
      cases key <;> simp at this
      exact ⟨_, rfl⟩
    obtain ⟨ls, hls, _⟩ := Option.map_eq_some_iff.1 h
    obtain ⟨d, hd⟩ : ∃ d, Tryz.prog.types.size + 1 = d + 2 := ⟨Tryz.prog.types.size - 1, by have : 0 < Tryz.prog.types.size := of_decide_eq_true (by kernel_rfl); omega⟩
    rw [hd] at hls
    unfold Program.keyLits at hls
    rw [Tryz.underlying37] at hls
    dsimp only at hls
    split at hls
    · rename_i hc
      obtain ⟨hc, _⟩ := hc
      rw [cells29] at hc
      have hc2 : cs.toList.length = 2 := hc
      obtain ⟨a, b, hab⟩ : ∃ a b, cs.toList = [a, b] := by
        match hq : cs.toList, hc2 with
        | [a, b], _ => exact ⟨a, b, rfl⟩
      have hcs : cs = #[a, b] := by rw [← Array.toList_inj, hab]
      subst hcs
      simp only [List.mapM_cons, List.mapM_nil, cells9, cells3] at hls
      have e9 : List.take 1 (List.drop 0 (Value.agg #[a, b]).cells.toList) = [a] := rfl
      have e3 : List.take 1 (List.drop 1 (Value.agg #[a, b]).cells.toList) = [b] := rfl
      rw [e9, e3] at hls
      cases q9 : Tryz.prog.keyLits (d + 1) 9 [a] with
      | none => rw [q9] at hls; cases hls
      | some l9 =>
      cases q3 : Tryz.prog.keyLits (d + 1) 3 [b] with
      | none => rw [q9, q3] at hls; cases hls
      | some l3 =>
      have h9 := lits9_inv q9
      have h3 := lits3_inv q3
      obtain ⟨s, rfl, hs⟩ := h9
      obtain ⟨n, rfl, hn⟩ := h3
      exact ⟨(s, n), rfl, hs, hn⟩
    · cases hls
  · cases h

/-- No key twice; a key has come just where the map has it and it is no longer to come. -/
def CollI {H : Type} (D0 : DataW H) (left : Lit → Bool) (ss : List SI) : Prop := ss.Nodup ∧ (∀ x ∈ ss, okI x) ∧ ∀ x l, okI x → keyOf Tryz.prog 37 (encI x) = some l → (x ∈ ss ↔ (Maps.has D0 l = true ∧ left l = false))
theorem CollI.start {H : Type} (D0 : DataW H) : CollI D0 (Maps.has D0) [] := ⟨List.nodup_nil, (fun x h => by cases h), fun x l _ _ => by cases Maps.has D0 l <;> simp⟩
theorem CollI.step {H : Type} {D0 : DataW H} {left : Lit → Bool} {ss : List SI} (h : CollI D0 left ss) {x : SI} {kl : Lit} {y : DataW H} (hx : okI x) (hkl : keyOf Tryz.prog 37 (encI x) = some kl) (hlk : left kl = true) (hat : ∀ zd, D0.atKey kl zd = y) :
    CollI D0 (fun z => left z && !z.sameKey kl) (ss ++ [x]) := by
  have hhas : Maps.has D0 kl = true := Maps.has_true_of_atKey hat
  have hnew : x ∉ ss := fun hm => by have := ((h.2.2 x kl hx hkl).1 hm).2; rw [hlk] at this; cases this
  refine ⟨List.nodup_append.2 ⟨h.1, by simp, fun a ha b hb => by simp at hb; subst hb; exact fun e => hnew (e ▸ ha)⟩, fun a ha => ?_, fun y l hy hl => ?_⟩
  · rcases List.mem_append.1 ha with ha | ha
    · exact h.2.1 a ha
    · rw [List.mem_singleton] at ha; subst ha; exact hx
  · obtain ⟨s1, rfl⟩ := law29.str hkl
    obtain ⟨s2, rfl⟩ := law29.str hl
    rw [List.mem_append, List.mem_singleton, h.2.2 y _ hy hl]
    by_cases e : y = x
    · subst e
      rw [hl] at hkl
      injection hkl with hkl
      rw [hkl]
      simp [hhas, Lit.sameKey]
    · have hne : s2 ≠ s1 := fun e' => e (keyI.inj _ _ (law29.inj (e' ▸ hl) hkl))
      simp [e, hne, Lit.sameKey]

/-- What Keys' iterator gives. -/
def KeysOfI (n : Nat) (ks ss : List SI) : Prop := ss.length ≤ n ∧ ss.Nodup ∧ (∀ x ∈ ss, okI x) ∧ ∀ x, okI x → (x ∈ ss ↔ x ∈ ks)

set_option maxRecDepth 100000 in
set_option maxHeartbeats 8000000 in
theorem keysI_stops {Bm b n : Nat} {z : Value} {ks : List SI} {g : SI → Value} {w : World} (hB : Bm < w.heap.size) (hbx : w.heap[Bm]? = some (.cells #[.map (some b)] 50 (0, 0))) (hm : MapAt 37 encI okI z w b n ks g) (m : Nat) :
    SeqStopsK Fence.wide m Tryz.prog 35 #[.pointer (some ⟨Bm, 0, none⟩)] (fun x : SI => #[encI x]) KeepsWalks (KeysOfI n ks) (fun _ => True) n w := fun l' J Jx W hW hJ hJx hY h0 => by
  obtain ⟨D, hown0, hD, hks⟩ := hm
  have hown : W.ownsMap Tryz.prog 37 heldR b n D := by
    obtain ⟨es, clock, h1, h2⟩ := hown0
    exact ⟨es, clock, (hW.block b ((Array.getElem?_eq_some_iff.1 h1).1)).trans h1, h2⟩
  have hsz : Maps.size D ≤ n := by
    obtain ⟨es2, clock, _, _, hs, hD2⟩ := hown
    rw [hD2, Maps.size_eq, length_sorted]
    simpa using hs
  have c0 : W.cell? ⟨Bm, 0, none⟩ = some (.map (some b)) := (blk_cell ((hW.block Bm hB).trans hbx) 0).trans rfl
  have HY : Aside0 (∀ mm (pre : List SI) x W, J pre W → pre.length < n → YieldAt Fence.wide mm Tryz.prog l' #[encI x] W fun e W' => (e = .returned (.bool true) ∧ J (pre ++ [x]) W' ∧ KeepsWalks W W') ∨ (e = .returned (.bool false) ∧ Jx (pre ++ [x]) W')) := ⟨fun mm pre x W hj hl => YieldAt.anyDepth rfl mm (hY pre x W hj hl)⟩
  have HJA : Aside0 (∀ pre W o, J pre W → J pre (W.alloc o)) := ⟨fun pre W o hj => abides_alloc hJ pre W o hj⟩
  have HJ := Aside0.mk hJ
  have HKS := Aside0.mk (And.intro hD hks)
  have HSZ := Aside0.mk hsz
  have t51 := Tryz.underlying50
  clear hJ hJx hY hown0 hbx hW hD hks hsz
  refine callsIn_of_wp Tryz.func35 rfl trivial ?_ rfl
  simp only [Tryz.ntmps35, List.size_toArray, List.length_cons, List.length_nil, Nat.reduceAdd, Nat.reduceSub, Array.replicate_succ, Array.replicate_zero, List.push_toArray, List.append_toArray, List.nil_append, List.cons_append]
  gi_wp2_with (gi_at_range; refine wpListIn_range_own _ rfl _ 50 rfl 37 3 keyI.law t51 heldR b n D rfl hown ?_; intro w0 hrg0 hg0 hs0)
  go_frame
  gi_loopw [3] (fun _ wr => ∃ (left : Lit → Bool) (cnt : Nat) (ss : List SI), wr.ranges Tryz.prog 37 heldR b W.heap.size n D left cnt ∧ Aside0 (ss.length + cnt ≤ Maps.size D ∧ CollI D left ss ∧ J ss wr))
    (fun _ wr => wr.rangeLeft b W.heap.size)
  case atStart => exact ⟨_, _, [], hrg0, ⟨by simp, CollI.start D, HJ.out [] W w0 none h0 hg0 (fun r e => by cases e)⟩⟩
  case round =>
    obtain ⟨left, cnt, ss, hrg, HI⟩ := hrel
    gi_wp2_with (gi_at_next; refine wpListIn_next_ranges _ rfl _ rfl 37 keyI.law heldR encI id (fun key kl hk => by obtain ⟨x, hx, _⟩ := keyI_inv hk; exact ⟨x, hx⟩) (fun v _ _ => ⟨v, rfl⟩) b W.heap.size n _ _ _ rfl hrg ?_ ?_)
    · intro hc0 hl0
      gi_wp2
      go_end0
      refine ⟨⟨_, rfl⟩, .inl ⟨ss, ⟨by have := HI.out.1; have := HSZ.out; omega, HI.out.2.1.1, HI.out.2.1.2.1, fun x hx => ?_⟩, HI.out.2.2⟩⟩
      obtain ⟨l, hl⟩ := keyI.key x hx
      rw [HI.out.2.1.2.2 x l hx hl, ← (HKS.out.2 x l hx hl).2, hl0 l]
      simp
    · intro p q c kl yd yp w2 cnt2 hkey hlk hv hat hrg2 hlt hg2 hs2 hen
      obtain ⟨x', ex, hok⟩ := keyI_inv hkey
      have exx := keyI.inj (p, q) x' ex
      subst exx
      have hJ2 : J ss w2 := HJ.out ss wr w2 (some W.heap.size) HI.out.2.2 hg2 (fun r e => by cases e; exact ⟨Nat.le_refl _, hrg.iter_walk⟩)
      have hJ3 := HJA.out ss w2 (.cells #[.string p, .int .i64 q] 37) hJ2
      have hlen : ss.length < n := by have := HI.out.1; have := HSZ.out; omega
      obtain ⟨fn, tmps, assign, body, hyy, hR⟩ := HY.out (m - 1) ss (p, q) _ hJ3 hlen
      have hyy' : Sem.run Tryz.prog (Instr.yield l' #[.agg #[.string p, .int .i64 q]]) (w2.alloc (.cells #[.string p, .int .i64 q] 37)) = .ok (.round l' fn tmps assign body) (w2.alloc (.cells #[.string p, .int .i64 q] 37)) := hyy
      have hen' : Sem.run Tryz.prog (Instr.entry (.pointer (some ⟨W.heap.size, 0, none⟩))) w2 = .ok (.tuple #[.agg #[.string p, .int .i64 q], c]) w2 := hen
      have hnN := heap_alloc_new w2 (.cells #[.string p, .int .i64 q] 37)
      have x0 := (blk_cell hnN 0).trans (show (#[Value.string p, .int .i64 q])[0]? = some (.string p) from rfl)
      have x1 := (blk_cell hnN 1).trans (show (#[Value.string p, .int .i64 q])[1]? = some (.int .i64 q) from rfl)
      have HR := Aside0.mk hR
      have HC2 := Aside0.mk (HI.out.2.1.step hok hkey hlk hat)
      have HRG := Aside0.mk (And.intro hrg2 hlt)
      have HLT := Aside0.mk (show ss.length + 1 + cnt2 ≤ Maps.size D by have := HI.out.1; omega)
      clear hJ2 hJ3 hyy hen hR hs2 hg2 hnN hkey hlk hat hv hrg2 hlt ex hok
      have HKW : Aside0 (∀ W3, KeepsWalks (w2.alloc (.cells #[.string p, .int .i64 q] 37)) W3 → W3.ranges Tryz.prog 37 heldR b W.heap.size n D (fun z => left z && !z.sameKey kl) cnt2 ∧ W3.rangeLeft b W.heap.size < wr.rangeLeft b W.heap.size) := ⟨fun W3 hk => by
        have hrg3 := HRG.out.1.of_walks ((KeepsWalks.alloc w2 _).trans hk)
        exact ⟨hrg3, by rw [hrg3.left_eq, hrg.left_eq]; exact HRG.out.2⟩⟩
      clear hrg
      gi_wp2
      refine ⟨fun e => (by cases e), HR.out.mono ?_⟩
      rintro e W3 (⟨rfl, hJ3, hk3⟩ | ⟨rfl, hJx3⟩)
      · have HJ3 := Aside0.mk hJ3
        have HK3 := Aside0.mk (HKW.out W3 hk3)
        clear hJ3 hk3 HR x0 x1 hyy' hen'
        gi_wp2
        go_roundw
        case measure => exact HK3.out.2
        case rel => exact ⟨_, cnt2, ss ++ [(p, q)], HK3.out.1, ⟨by rw [List.length_append]; exact HLT.out, HC2.out, HJ3.out⟩⟩
      · have HJX := Aside0.mk hJx3
        clear hJx3 HR x0 x1 hyy' hen'
        gi_wp2
        (try simp only [Exit.inBlock, Exit.then])
        refine bodyPost_ret (results_none rfl _ _ _) rfl ?_
        exact ⟨⟨_, rfl⟩, .inr ⟨_, trivial, HJX.out⟩⟩
end Go.Proofs.YtknpkfjaffhejaaGreat
