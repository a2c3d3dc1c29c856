/- WHAT IS PROVED: a work list of strings (a slice cut at its head, appended to at its end); the procedures to which one comes, plain. | WHAT IS PROVED: Reach hands back the procedures to which one comes, in order. | WHAT IS PROVED: the reference's Reach. -/
import Derived.Test.YtknpkfjaffhejaaGreatPt
import Derived.Test.YtknpkfjaffhejaaGreatPv
import Derived.Test.YtknpkfjaffhejaaGreatKn
import Derived.Test.YtknpkfjaffhejaaGreatNq
namespace Go.Proofs.YtknpkfjaffhejaaGreat
open Go.RowKit Go.Proofs.YtknpkfjaffhejaaGreatW.PrintWords Go.Proofs.YtknpkfjaffhejaaGreatW.PrintLast Go.Proofs.YtknpkfjaffhejaaGreatW.PrintMore
set_option linter.unusedVariables false
set_option linter.unusedSimpArgs false

/-- One comes there. -/
inductive Rch (l : List Edge) (proc : ByteArray) : ByteArray → Prop
  | first (e : Edge) : e ∈ l → e.p = proc → Rch l proc e.q
  | next (e : Edge) : e ∈ l → Rch l proc e.p → Rch l proc e.q
def shutAt (l : List Edge) (ks : List ByteArray) (x : ByteArray) : Prop := ∀ e ∈ l, e.p = x → e.q ∈ ks
theorem reach_done {l : List Edge} {proc : ByteArray} {ks : List ByteArray} (h1 : ∀ s ∈ ks, Rch l proc s) (h2 : ∀ x, (x = proc ∨ x ∈ ks) → shutAt l ks x) (s : ByteArray) : s ∈ ks ↔ Rch l proc s := by
  refine ⟨h1 s, fun h => ?_⟩
  induction h with
  | first e he hp => exact h2 e.p (.inl hp) e he rfl
  | next e he _ ih => exact h2 e.p (.inr ih) e he rfl

open Classical in
/-- A map of what has been found. -/
def FdAt (W : World) (b : Nat) (ks : List ByteArray) : Prop := ∃ g, MapAt 9 Value.string okS (.int .i64 0) W b ks.length ks g ∧ ks.Nodup ∧ (∀ s ∈ ks, okS s) ∧ ∀ s, okS s → g s = .int .i64 (if s ∈ ks then 1 else 0)
open Classical in
theorem FdAt.made (W : World) : FdAt (W.alloc (.map #[] 0)) W.heap.size [] := ⟨_, MapAt.made W, List.nodup_nil, (fun s h => by cases h), fun s _ => by simp⟩
theorem FdAt.below {W W' : World} {b : Nat} {ks : List ByteArray} (h : FdAt W b ks) (hb : W'.heap[b]? = W.heap[b]?) : FdAt W' b ks := by
  obtain ⟨g, h1, h2⟩ := h
  exact ⟨g, h1.below hb, h2⟩
open Classical in
theorem FdAt.look {W : World} {b : Nat} {ks : List ByteArray} (h : FdAt W b ks) {s : ByteArray} (hs : okS s) : Sem.run Tryz.prog (Instr.lookup 58 (.map (some b)) (.string s) false) W = .ok (.int .i64 (if s ∈ ks then 1 else 0)) W := by
  obtain ⟨g, h1, _, _, h2⟩ := h
  rw [← h2 s hs]
  exact h1.look keyS Tryz.underlying58 (zv3 _) hs
open Classical in
theorem FdAt.add {W : World} {b : Nat} {ks : List ByteArray} (h : FdAt W b ks) {s : ByteArray} (hs : okS s) (hn : s ∉ ks) (hl : ks.length < maxLen) : ∃ W', Sem.run Tryz.prog (Instr.mapUpdate 58 (.map (some b)) (.string s) (.int .i64 1)) W = .ok () W' ∧ FdAt W' b (ks ++ [s]) ∧ W.grownBy W' (some b) := by
  obtain ⟨g, h1, h2, h3, h4⟩ := h
  obtain ⟨W', r1, r2, r3⟩ := h1.update keyS Tryz.underlying58 hl hs (.int .i64 1)
  refine ⟨W', r1, ⟨_, by rw [List.length_append]; exact r2, List.nodup_append.2 ⟨h2, by simp, fun a ha c hc => ?_⟩, fun t ht => ?_, fun t ht => ?_⟩, r3⟩
  · rw [List.mem_singleton] at hc
    subst hc
    exact fun e => hn (e ▸ ha)
  · rcases List.mem_append.1 ht with ht | ht
    · exact h3 t ht
    · rw [List.mem_singleton] at ht; subst ht; exact hs
  · by_cases e : t = s
    · subst e
      rw [upd_same]
      simp
    · rw [upd_other _ _ e, h4 t ht]
      simp [e]

/-- A work list: a slice into a block of the call's own. -/
def QR (n0 : Nat) (W : World) (v : Value) (Q : List ByteArray) : Prop := ∃ b off cap, v = .slice (some ⟨b, off, none⟩) Q.length cap ∧ n0 ≤ b ∧ b < W.heap.size ∧ Q.length ≤ cap ∧ cap ≤ maxLen ∧ (∀ i, i < Q.length → W.cell? ⟨b, off + i, none⟩ = some (.string Q[i]!)) ∧
  ∀ j, Q.length ≤ j → j < cap → (W.cell? ⟨b, off + j, none⟩).isSome = true ∧ W.frozen? ⟨b, off + j, none⟩ = false
theorem QR.kept {n0 : Nat} {W W' : World} {v : Value} {Q : List ByteArray} {row : Option Nat} (h : QR n0 W v Q) (hg : W.grownBy W' row) (hr : ∀ r, row = some r → r < n0) : QR n0 W' v Q := by
  obtain ⟨b, off, cap, rfl, h1, h2, h3, h4, h5, h6⟩ := h
  have hb := hg.block b h2 (fun e => by have := hr b e.symm; omega)
  exact ⟨b, off, cap, rfl, h1, Nat.lt_of_lt_of_le h2 hg.size, h3, h4, fun i hi => (World.cell?_of_block hb).trans (h5 i hi), fun j a c => by rw [World.cell?_of_block hb, World.frozen?_of_block hb]; exact h6 j a c⟩
theorem QR.tail {n0 : Nat} {W : World} {b off n cap : Nat} {s : ByteArray} {Q : List ByteArray} (h : QR n0 W (.slice (some ⟨b, off, none⟩) n cap) (s :: Q)) : W.cell? ⟨b, off, none⟩ = some (.string s) ∧ n = Q.length + 1 ∧ Q.length + 1 ≤ cap ∧
    QR n0 W (.slice (if cap = 1 then some ⟨b, off, none⟩ else some ⟨b, off + 1, none⟩) Q.length (cap - 1)) Q := by
  obtain ⟨b', off', cap', e, h1, h2, h3, h4, h5, h6⟩ := h
  injection e with e1 e2 e3
  injection e1 with e1
  injection e1 with e1 e4 _
  subst e1 e3 e4
  simp only [List.length_cons] at e2 h3 h5 h6
  have h50 := h5 0 (by omega)
  rw [Nat.add_zero] at h50
  refine ⟨h50, e2, h3, ?_⟩
  by_cases hc : cap = 1
  · rw [if_pos hc]
    have hQ : Q = [] := List.length_eq_zero_iff.1 (by omega)
    subst hQ
    exact ⟨b, off, cap - 1, rfl, h1, h2, by simp, by omega, fun i hi => by simp at hi, fun j _ hj => by omega⟩
  · rw [if_neg hc]
    refine ⟨b, off + 1, cap - 1, rfl, h1, h2, by omega, by omega, fun i hi => ?_, fun j a c => ?_⟩
    · have := h5 (i + 1) (by omega)
      rw [show off + 1 + i = off + (i + 1) by omega, this]
      simp
    · rw [show off + 1 + j = off + (j + 1) by omega]
      exact h6 (j + 1) (by omega) (by omega)

theorem wpList_push {n0 : Nat} (w : World) {ops : Array Oper} {rest : List Oper} {o : Oper} {a : Act} {Q : Exit → Act → World → Prop}
    (hg : o.guard = none) (s x : Operand) (hop : o.op = Op.call { callee := Callee.builtin Builtin.append, args := #[s, x], argTypes := #[28, 28] })
    (v : Value) (qs : List ByteArray) (hs : a.eval s = v) (hQ : QR n0 w v qs) (ad : Addr) (hx : a.eval x = .slice (some ad) 1 1) (str : ByteArray) (hc : w.cell? ad = some (.string str)) (hn : qs.length < 1099511627776) (hlb : n0 ≤ w.heap.size)
    (hK : ∀ v' w', QR n0 w' v' (qs ++ [str]) → Below n0 w w' → wpList Tryz.prog ops Q rest (a.put o.dst v') w') : wpList Tryz.prog ops Q (o :: rest) a w := by
  obtain ⟨b, off, cap, rfl, h1, h2, h3, h4, h5, h6⟩ := hQ
  obtain ⟨i0, hi0, hz0, hz1, hz2⟩ := info_parts (show (Tryz.prog.info? 9).map (fun i => (i.zero, i.size, i.bytes)) = some (some (.string ⟨#[]⟩), 1, 16) by kernel_rfl)
  have had : ∀ j u, ([Value.string str] : List Value)[j]? = some u → w.cell? (ad.add j) = some u := fun j u hj => by
    have hj0 : j = 0 := by
      have := (List.getElem?_eq_some_iff.1 hj).1
      simp at this
      exact this
    subst hj0
    have e : ad.add 0 = ad := by simp [Addr.add]
    rw [e, hc]
    simpa using hj
  refine wpList_append_arg w hg s x 28 hop 9 i0 (.string ⟨#[]⟩) 1 16 Tryz.underlying28 hi0 hz0 hz1 hz2 rfl (by omega) b off qs.length cap (qs.map Value.string) hs (by simp) (fun j u hj => ?_) ad 1 1 [.string str] hx rfl had (by simp [Value.oneCell']) (fun hr j hj => ?_) (by unfold maxLen; omega) (by omega) (fun hr => ?_) (fun hr v' w' how hgr => ?_)
  · rw [List.getElem?_map] at hj
    obtain ⟨t, ht, rfl⟩ := Option.map_eq_some_iff.1 hj
    have hlt := (List.getElem?_eq_some_iff.1 ht).1
    have := h5 j hlt
    rw [getElem!_pos qs j hlt] at this
    rw [this]
    rw [(List.getElem?_eq_some_iff.1 ht).2]
  · simp only [List.length_singleton] at hj
    have hj0 : j = 0 := by omega
    subst hj0
    simpa using h6 qs.length (Nat.le_refl _) (by omega)
  · refine hK _ _ ⟨b, off, cap, by simp, h1, by rw [size_setCells]; exact h2, by simp; omega, h4, fun i hi => ?_, fun j hj hj2 => ?_⟩ (below_setCells h1 _ _ _ (Below.refl _ _))
    · rw [List.length_append, List.length_singleton] at hi
      by_cases e : i = qs.length
      · subst e
        have hsome := (h6 qs.length (Nat.le_refl _) (by omega)).1
        have : (w.setCells b (off + qs.length * 1) [Value.string str]).cell? ⟨b, off + qs.length, none⟩ = some (.string str) := by
          rw [Nat.mul_one]
          obtain ⟨u, hu⟩ := Option.isSome_iff_exists.1 hsome
          exact World.cell?_setCell_same _ _ _ hu
        rw [this, getElem!_pos _ _ (by simp)]
        simp
      · rw [World.cell?_setCells_out b [Value.string str] _ w _ (fun _ _ => .inl (by show off + i < off + qs.length * 1; omega)), h5 i (by omega)]
        rw [getElem!_pos qs i (by omega), getElem!_pos (qs ++ [str]) i (by simp; omega), List.getElem_append_left (by omega)]
    · rw [List.length_append, List.length_singleton] at hj
      rw [World.frozen?_setCells, World.cell?_setCells_out b [Value.string str] _ w _ (fun _ _ => .inr (by show off + qs.length * 1 + 1 ≤ off + j; omega))]
      exact h6 j (by omega) hj2
  · obtain ⟨hl, ⟨_, h0⟩ | ⟨g, cp, cur, rfl, a2, a3, a4, a5, a6, a7⟩⟩ := how
    · omega
    · refine hK _ _ ⟨g, 0, cp, by simp, by omega, blk_lt a3, by simpa using a4, a5, fun i hi => ?_, fun j hj hj2 => ?_⟩ (grownBy_below hgr hlb (fun _ e => by cases e))
      · rw [List.length_append, List.length_singleton] at hi
        rw [Nat.zero_add, blk_cell a3, ← Array.getElem?_toList]
        have h7 : (cur.toList.take ((qs.length + 1) * 1))[i]? = ((qs.map Value.string) ++ [.string str])[i]? := by rw [a7]
        rw [List.getElem?_take, if_pos (by omega)] at h7
        rw [h7, show (qs.map Value.string) ++ [.string str] = (qs ++ [str]).map Value.string by simp, List.getElem?_map, List.getElem?_eq_getElem (by simp; omega), getElem!_pos (qs ++ [str]) i (by simp; omega)]
        rfl
      · rw [Nat.zero_add, blk_cell a3]
        exact ⟨by rw [Array.getElem?_eq_getElem (by omega)]; rfl, blk_frozen a3 _⟩
end Go.Proofs.YtknpkfjaffhejaaGreat

namespace Go.Proofs.YtknpkfjaffhejaaGreat
open Go.RowKit Go.Sort Go.Lib Go.Proofs.YtknpkfjaffhejaaGreatW.PrintWords Go.Proofs.YtknpkfjaffhejaaGreatW.PrintLast Go.Proofs.YtknpkfjaffhejaaGreatW.PrintMore
set_option linter.unusedVariables false
set_option linter.unusedSimpArgs false

theorem rch_mem {l : List Edge} {proc s : ByteArray} (h : Rch l proc s) : ∃ e ∈ l, e.q = s := by
  cases h with
  | first e he _ => exact ⟨e, he, rfl⟩
  | next e he _ => exact ⟨e, he, rfl⟩
theorem nodup_le {α : Type} [DecidableEq α] : ∀ (l m : List α), l.Nodup → (∀ x ∈ l, x ∈ m) → l.length ≤ m.length
  | [], m, _, _ => by simp
  | x :: r, m, hn, h => by
    rw [List.nodup_cons] at hn
    have hx := h x (by simp)
    have := nodup_le r (m.erase x) hn.2 fun y hy => (List.mem_erase_of_ne (fun e => hn.1 (by rw [← e]; exact hy))).2 (h y (by simp [hy]))
    rw [List.length_erase_of_mem hx] at this
    have hp := List.length_pos_of_mem hx
    simp only [List.length_cons]
    omega
theorem ks_le {l : List Edge} {proc : ByteArray} {ks : List ByteArray} (hn : ks.Nodup) (h : ∀ s ∈ ks, Rch l proc s) : ks.length ≤ l.length := by
  have := @nodup_le ByteArray (fun a b => Classical.propDecidable (a = b)) ks (l.map fun e => e.q) hn fun s hs => by
    obtain ⟨e, he, h2⟩ := rch_mem (h s hs)
    exact List.mem_map.2 ⟨e, he, h2⟩
  rwa [List.length_map] at this

/-- What holds between two procedures taken from the list. -/
structure RcO (l : List Edge) (proc : ByteArray) (Q ks : List ByteArray) : Prop where
  nd : ks.Nodup
  sound : ∀ s ∈ ks, Rch l proc s
  known : ∀ s ∈ Q, s = proc ∨ s ∈ ks
  shut : ∀ x, (x = proc ∨ x ∈ ks) → x ∈ Q ∨ shutAt l ks x
/-- What holds while a procedure's edges are looked through. -/
structure RcI (l : List Edge) (proc at_ : ByteArray) (i : Nat) (Q ks : List ByteArray) : Prop where
  nd : ks.Nodup
  sound : ∀ s ∈ ks, Rch l proc s
  known : ∀ s ∈ Q, s = proc ∨ s ∈ ks
  here : at_ = proc ∨ at_ ∈ ks
  shut : ∀ x, (x = proc ∨ x ∈ ks) → x = at_ ∨ x ∈ Q ∨ shutAt l ks x
  upto : ∀ j, j < i → l[j]!.p = at_ → l[j]!.q ∈ ks
theorem RcO.start (l : List Edge) (proc : ByteArray) : RcO l proc [proc] [] := ⟨List.nodup_nil, (fun s h => by cases h), (fun s h => .inl (by simpa using h)), fun x h => .inl (by simpa using h)⟩
theorem RcO.open_ {l : List Edge} {proc a : ByteArray} {Q ks : List ByteArray} (h : RcO l proc (a :: Q) ks) : RcI l proc a 0 Q ks :=
  ⟨h.nd, h.sound, fun s hs => h.known s (by simp [hs]), h.known a (by simp), fun x hx => by
    rcases h.shut x hx with e | e
    · rcases List.mem_cons.1 e with e | e
      · exact .inl e
      · exact .inr (.inl e)
    · exact .inr (.inr e), fun j hj => by omega⟩
theorem RcI.close {l : List Edge} {proc a : ByteArray} {Q ks : List ByteArray} (h : RcI l proc a l.length Q ks) : RcO l proc Q ks :=
  ⟨h.nd, h.sound, h.known, fun x hx => by
    rcases h.shut x hx with e | e
    · subst e
      refine .inr fun e he hp => ?_
      obtain ⟨j, hj, rfl⟩ := List.getElem_of_mem he
      have := h.upto j hj
      rw [getElem!_pos l j hj] at this
      exact this hp
    · exact e⟩
theorem RcI.skip {l : List Edge} {proc a : ByteArray} {i : Nat} {Q ks : List ByteArray} (h : RcI l proc a i Q ks) (hs : l[i]!.p = a → l[i]!.q ∈ ks) : RcI l proc a (i + 1) Q ks :=
  ⟨h.nd, h.sound, h.known, h.here, h.shut, fun j hj => by
    by_cases e : j = i
    · subst e; exact hs
    · exact h.upto j (by omega)⟩
theorem RcI.add {l : List Edge} {proc a : ByteArray} {i : Nat} {Q ks : List ByteArray} (h : RcI l proc a i Q ks) (hi : i < l.length) (hp : l[i]!.p = a) (hq : l[i]!.q ∉ ks) : RcI l proc a (i + 1) (Q ++ [l[i]!.q]) (ks ++ [l[i]!.q]) := by
  have hm : l[i]! ∈ l := by rw [getElem!_pos l i hi]; exact List.getElem_mem _
  refine ⟨List.nodup_append.2 ⟨h.nd, by simp, fun x hx y hy => ?_⟩, fun s hs => ?_, fun s hs => ?_, ?_, fun x hx => ?_, fun j hj hpj => ?_⟩
  · rw [List.mem_singleton] at hy
    subst hy
    exact fun e => hq (e ▸ hx)
  · rcases List.mem_append.1 hs with hs | hs
    · exact h.sound s hs
    · rw [List.mem_singleton] at hs
      subst hs
      rcases h.here with e | e
      · exact .first _ hm (hp.trans e)
      · exact .next _ hm (by rw [hp]; exact h.sound _ e)
  · rcases List.mem_append.1 hs with hs | hs
    · rcases h.known s hs with e | e
      · exact .inl e
      · exact .inr (List.mem_append_left _ e)
    · exact .inr (List.mem_append_right _ hs)
  · rcases h.here with e | e
    · exact .inl e
    · exact .inr (List.mem_append_left _ e)
  · have old : (x = proc ∨ x ∈ ks) → x = a ∨ x ∈ Q ++ [l[i]!.q] ∨ shutAt l (ks ++ [l[i]!.q]) x := fun hx => by
      rcases h.shut x hx with e | e | e
      · exact .inl e
      · exact .inr (.inl (List.mem_append_left _ e))
      · exact .inr (.inr fun e' he hp' => List.mem_append_left _ (e e' he hp'))
    rcases hx with e | e
    · exact old (.inl e)
    · rcases List.mem_append.1 e with e | e
      · exact old (.inr e)
      · exact .inr (.inl (List.mem_append_right _ e))
  · by_cases e : j = i
    · subst e; exact List.mem_append_right _ (by simp)
    · exact List.mem_append_left _ (h.upto j (by omega) hpj)

set_option maxRecDepth 100000 in
set_option maxHeartbeats 8000000 in
theorem reach_calls (W : World) (v : Value) (l : List Edge) (proc : ByteArray) {m0 : Nat} (h : EdR m0 W v l) (hn : l.length ≤ 1048576) (hs : ∀ e ∈ l, okE e) :
    Calls Tryz.prog 10 #[v, .string proc] W fun e W' => ∃ (v' : Value) (names : List ByteArray), e = .returned v' ∧ W'.ownsRow W.heap.size 9 1 v' names.length (names.map Value.string) ∧ names.Pairwise (fun x y => blt x y = true) ∧ (∀ s, s ∈ names ↔ Rch l proc s) ∧ Below W.heap.size W W' := by
  have h' := h
  obtain ⟨A, c, rfl, _⟩ := h'
  have hmm := @run_makeMap Tryz.prog
  have hu39 := Tryz.underlying39
  have hu37 := Tryz.underlying37
  have HE := Aside0.mk h
  have HOK := Aside0.mk hs
  have hb1 := below_mk (below_mk (Below.refl W.heap.size W) (.map #[] 0)) (.cells #[.string proc] 9)
  have e1 : (W.alloc (.map #[] 0)).heap.size = W.heap.size + 1 := by simp
  have hF : FdAt ((W.alloc (.map #[] 0)).alloc (.cells #[.string proc] 9)) W.heap.size [] := (FdAt.made W).below (Below.heap_alloc _ _ _ (by rw [e1]; omega))
  have hQ : QR (W.heap.size + 1) ((W.alloc (.map #[] 0)).alloc (.cells #[.string proc] 9)) (.slice (some ⟨W.heap.size + 1, 0, none⟩) 1 1) [proc] := by
    have hnew := heap_alloc_new (W.alloc (.map #[] 0)) (.cells #[.string proc] 9)
    rw [e1] at hnew
    exact ⟨W.heap.size + 1, 0, 1, rfl, Nat.le_refl _, by simp, by simp, by unfold maxLen; omega, fun i hi => by
      have : i = 0 := by simpa using hi
      subst this
      exact (blk_cell hnew 0).trans rfl, fun j a b => by simp at a; omega⟩
  have H0 := Aside0.mk (And.intro hF (And.intro hb1 (show W.heap.size + 1 ≤ ((W.alloc (.map #[] 0)).alloc (.cells #[.string proc] 9)).heap.size by simp)))
  have HQ0 := Aside0.mk hQ
  clear h hs hb1 e1 hF hQ
  go_enter Tryz.func10, Tryz.ntmps10
  go_wp2_with fail
  generalize (W.alloc (.map #[] 0)).alloc (.cells #[.string proc] 9) = U at *
  go_loopg [6] (2 * l.length + 1) (fun gg v6 wr => ∃ (bq oq cq : Nat) (Q ks : List ByteArray), v6 = .slice (some ⟨bq, oq, none⟩) Q.length cq ∧ Aside0 (QR (W.heap.size + 1) wr (.slice (some ⟨bq, oq, none⟩) Q.length cq) Q ∧ FdAt wr W.heap.size ks ∧ RcO l proc Q ks ∧ Below W.heap.size W wr ∧ W.heap.size + 1 ≤ wr.heap.size) ∧ 2 * (l.length - ks.length) + Q.length ≤ gg ∧ Aside0 (2 * (l.length - ks.length) + Q.length ≤ 2097153))
  case atStart => exact ⟨_, _, _, [proc], [], rfl, ⟨HQ0.out, H0.out.1, RcO.start l proc, H0.out.2.1, H0.out.2.2⟩, by simp, ⟨by simp; omega⟩⟩
  case round =>
    obtain ⟨bq, oq, cq, Q, ks, rfl, HI, hgg, HQL⟩ := hrel
    cases Q with
    | nil =>
      have hke := ks_le HI.out.2.2.1.nd HI.out.2.2.1.sound
      obtain ⟨g, hm, hnd, hok, _⟩ := HI.out.2.1
      have HK1 := Aside0.mk (keysS_calls (some W.heap.size) wr)
      have HK2 := Aside0.mk (sortedS_calls hm (by omega))
      have HOKS := Aside0.mk hok
      clear hm hnd hok hgg
      go_wp2_with (first | (go_at_call 27; refine HK1.out.mono ?_; rintro e W4 ⟨rfl, rfl⟩) | (go_at_call 26; refine HK2.out.mono ?_; rintro e W5 ⟨vv, names, rfl, how, hpw, hmem, hokn, hb5⟩; obtain ⟨A5, c5, rfl⟩ := owns_form how; have HF := Aside0.mk (And.intro how (And.intro hpw (And.intro hmem (And.intro hokn hb5)))); clear how hpw hmem hokn hb5))
      go_ret
      obtain ⟨how, hpw, hmem, hokn, hb5⟩ := HF.out
      have hrd := reach_done HI.out.2.2.1.sound (fun x hx => by
        rcases HI.out.2.2.1.shut x hx with e | e
        · cases e
        · exact e)
      refine ⟨_, names, rfl, owns_mono how HI.out.2.2.2.1.size, hpw, fun s => ?_, below_to HI.out.2.2.2.1 hb5⟩
      rw [← hrd]
      exact ⟨fun hs => (hmem s (hokn s hs)).1 hs, fun hs => (hmem s (HOKS.out s hs)).2 hs⟩
    | cons a Q =>
      obtain ⟨c0, _, hcq, hQ⟩ := HI.out.1.tail
      have p0 : decide ((0 : Int) < (((Q.length : Nat) : Int) + 1)) = true := decide_eq_true (by omega)
      have HRI := Aside0.mk HI.out.2.2.1.open_
      obtain ⟨o2, had⟩ : ∃ o2, (if cq = 1 then (some ⟨bq, oq, none⟩ : Option Addr) else some ⟨bq, oq + 1, none⟩) = some ⟨bq, o2, none⟩ := by split <;> exact ⟨_, rfl⟩
      rw [had] at hQ
      have HQ := Aside0.mk hQ
      have HM : Aside0 (2 * (l.length - ks.length) + Q.length < gk) := ⟨by simp only [List.length_cons] at hgg; omega⟩
      clear hQ hgg
      go_wp2_with fail
      clear had c0 p0
      go_loopw [6, 23] (fun v6 v wr => ∃ (i b2 o2 c2 : Nat) (Q2 ks2 : List ByteArray), v = .int .i64 (i : Nat) ∧ i ≤ l.length ∧ v6 = .slice (some ⟨b2, o2, none⟩) Q2.length c2 ∧ Aside0 (QR (W.heap.size + 1) wr (.slice (some ⟨b2, o2, none⟩) Q2.length c2) Q2 ∧ FdAt wr W.heap.size ks2 ∧ RcI l proc a i Q2 ks2 ∧ Below W.heap.size W wr ∧ W.heap.size + 1 ≤ wr.heap.size ∧ 2 * (l.length - ks2.length) + Q2.length ≤ 2 * (l.length - ks.length) + Q.length)) (fun _ v wr => l.length - (RowKit.intOf v).toNat)
      case atStart => exact ⟨0, _, _, _, Q, ks, rfl, Nat.zero_le _, rfl, ⟨HQ.out, HI.out.2.1, HRI.out, HI.out.2.2.2.1, HI.out.2.2.2.2, Nat.le_refl _⟩⟩
      case round =>
        obtain ⟨i, b2, o2', c2, Q2, ks2, rfl, hi, rfl, HJ⟩ := hrel
        by_cases hlt : i < l.length
        · have d1 : decide (((i : Nat) : Int) < ((l.length : Nat) : Int)) = true := decide_eq_true (by omega)
          have p0 : ((0 : Int) ≤ ((i : Nat) : Int)) = True := eq_true (by omega)
          have p1 : (((i : Nat) : Int) < ((l.length : Nat) : Int)) = True := eq_true (by omega)
          obtain ⟨_, b, off, rfl, y0, y1, y2, y3, y4, y5⟩ := (HE.out.below HJ.out.2.2.2.1).cells i hlt
          have hm : l[i]! ∈ l := by rw [getElem!_pos l i hlt]; exact List.getElem_mem _
          have hoq := (HOK.out _ hm).2.1
          have HSK := Aside0.mk HJ.out.2.2.1.skip
          have HAD := Aside0.mk (HJ.out.2.2.1.add hlt)
          obtain ⟨⟨p, n, q, m, kd, v⟩, hxe⟩ : ∃ y, l[i]! = y := ⟨_, rfl⟩
          rw [hxe] at y0 y1 y2 y3 y4 y5 hoq HSK HAD
          clear hxe hm
          have HSK2 : Aside0 ((p = a → q ∈ ks2) → RcI l proc a (i + 1) Q2 ks2) := HSK
          have HAD2 : Aside0 (p = a → q ∉ ks2 → RcI l proc a (i + 1) (Q2 ++ [q]) (ks2 ++ [q])) := HAD
          have hoq2 : okS q := hoq
          have hnN := heap_alloc_new wr (.cells #[.string p, .int .i64 n, .string q, .int .i64 m, .int .i64 kd, .bool v] 39)
          have hfd : FdAt (wr.alloc (.cells #[.string p, .int .i64 n, .string q, .int .i64 m, .int .i64 kd, .bool v] 39)) W.heap.size ks2 := HJ.out.2.1.below (Below.heap_alloc _ _ _ (by have := HJ.out.2.2.2.2.1; omega))
          have hqr := HJ.out.1.kept (World.grownBy_alloc wr (.cells #[.string p, .int .i64 n, .string q, .int .i64 m, .int .i64 kd, .bool v] 39) none) (fun r e => by cases e)
          have hbw : Below W.heap.size W (wr.alloc (.cells #[.string p, .int .i64 n, .string q, .int .i64 m, .int .i64 kd, .bool v] 39)) := below_mk HJ.out.2.2.2.1 _
          have hlk := hfd.look hoq2
          have x0 := (blk_cell hnN 0).trans (show (#[Value.string p, Value.int .i64 n, Value.string q, Value.int .i64 m, Value.int .i64 kd, Value.bool v])[0]? = some (.string p) from rfl)
          have x2 := (blk_cell hnN 2).trans (show (#[Value.string p, Value.int .i64 n, Value.string q, Value.int .i64 m, Value.int .i64 kd, Value.bool v])[2]? = some (.string q) from rfl)
          have HN := Aside0.mk (And.intro hnN (And.intro hfd (And.intro hqr (And.intro hbw (show wr.heap.size < (wr.alloc (.cells #[.string p, .int .i64 n, .string q, .int .i64 m, .int .i64 kd, .bool v] 39)).heap.size by simp)))))
          clear hoq HSK HAD hnN hfd hqr hbw
          by_cases h1 : p = a
          · have e1 : (p.toList == a.toList) = true := by rw [h1]; simp
            by_cases h2 : q ∈ ks2
            · rw [if_pos h2] at hlk
              have HR := Aside0.mk (HSK2.out (fun _ => h2))
              clear h1 h2 HSK2 HAD2
              go_wp2_with fail
              go_roundw
              case measure => show l.length - (i + 1) < l.length - i; omega
              case rel => exact ⟨i + 1, b2, o2', c2, Q2, ks2, by first | rfl | (simp; done), by omega, rfl, ⟨HN.out.2.2.1, HN.out.2.1, HR.out, HN.out.2.2.2.1, by have := HJ.out.2.2.2.2.1; have := HN.out.2.2.2.2; omega, HJ.out.2.2.2.2.2⟩⟩
            · rw [if_neg h2] at hlk
              have HR := Aside0.mk (HAD2.out h1 h2)
              have hk1 := ks_le HR.out.nd HR.out.sound
              rw [List.length_append, List.length_singleton] at hk1
              obtain ⟨W5, hup, hf5, hg5⟩ := HN.out.2.1.add hoq2 h2 (by unfold maxLen; omega)
              have hnb : wr.heap.size ≠ W.heap.size := by have := HJ.out.2.2.2.2.1; omega
              have hN5 := (hg5.block wr.heap.size HN.out.2.2.2.2 (fun e => hnb (by injection e))).trans HN.out.1
              have z2 := (blk_cell hN5 2).trans (show (#[Value.string p, Value.int .i64 n, Value.string q, Value.int .i64 m, Value.int .i64 kd, Value.bool v])[2]? = some (.string q) from rfl)
              have hq5 := HN.out.2.2.1.kept hg5 (fun r e => by injection e with e; omega)
              have hb5 : Below W.heap.size W W5 := HN.out.2.2.2.1.trans (grownBy_below hg5 HN.out.2.2.2.1.size (fun k e => by injection e with e; omega))
              have hs5 : W.heap.size + 1 ≤ W5.heap.size := by have := HJ.out.2.2.2.2.1; have := HN.out.2.2.2.2; have := hg5.size; omega
              have hq6 := hq5.kept (World.grownBy_alloc W5 (.cells #[.string q] 9) none) (fun r e => by cases e)
              have hc6 := (blk_cell (heap_alloc_new W5 (.cells #[.string q] 9)) 0).trans (show (#[Value.string q])[0]? = some (.string q) from rfl)
              have hk2 := ks_le HJ.out.2.2.1.nd HJ.out.2.2.1.sound
              have hM2 : 2 * (l.length - (ks2 ++ [q]).length) + (Q2 ++ [q]).length ≤ 2 * (l.length - ks.length) + Q.length := by
                have := HJ.out.2.2.2.2.2
                rw [List.length_append, List.length_append, List.length_singleton]
                omega
              have hQb : Q2.length < 1099511627776 := by
                have := HJ.out.2.2.2.2.2
                have := HQL.out
                omega
              have H6 := Aside0.mk (And.intro hq6 (And.intro hc6 (And.intro hf5 (And.intro hb5 (And.intro hs5 (And.intro hM2 hQb))))))
              clear h1 h2 HSK2 HAD2 hk1 hk2 hf5 hg5 hN5 hq5 hb5 hs5 hq6 hc6 hM2 hQb hnb
              go_wp2_with (at_builtin; refine wpList_push _ rfl _ _ rfl _ _ rfl H6.out.1 ⟨W5.heap.size, 0, none⟩ rfl q H6.out.2.1 H6.out.2.2.2.2.2.2 (by rw [World.size_alloc]; have := H6.out.2.2.2.2.1; omega) ?_; intro v7 W7 hq7 hb7; have hq7' := hq7; obtain ⟨b7, o7, c7, rfl, _⟩ := hq7'; have H7 := Aside0.mk (And.intro hq7 hb7); clear hq7 hb7)
              have HFIN : Aside0 (QR (W.heap.size + 1) W7 (.slice (some ⟨b7, o7, none⟩) (Q2 ++ [q]).length c7) (Q2 ++ [q]) ∧ FdAt W7 W.heap.size (ks2 ++ [q]) ∧ RcI l proc a (i + 1) (Q2 ++ [q]) (ks2 ++ [q]) ∧ Below W.heap.size W W7 ∧ W.heap.size + 1 ≤ W7.heap.size ∧ 2 * (l.length - (ks2 ++ [q]).length) + (Q2 ++ [q]).length ≤ 2 * (l.length - ks.length) + Q.length) := by
                refine ⟨H7.out.1, H6.out.2.2.1.below ?_, HR.out, ?_, ?_, H6.out.2.2.2.2.2.1⟩
                · exact (H7.out.2.block _ (by omega)).trans (Below.heap_alloc _ _ _ (by have := H6.out.2.2.2.2.1; omega))
                · exact (below_mk H6.out.2.2.2.1 _).trans ⟨H7.out.2.os, H7.out.2.tape, H7.out.2.output, H7.out.2.size, fun k hk => H7.out.2.block k (by omega)⟩
                · have := H7.out.2.size
                  rw [World.size_alloc] at this
                  have := H6.out.2.2.2.2.1
                  omega
              refine ⟨⟨.slice (some ⟨b7, o7, none⟩) (Q2 ++ [q]).length c7, .pointer (some ⟨wr.heap.size, 0, none⟩), .int .i64 (((i + 1 : Nat) : Nat) : Int), ⟨i + 1, rfl, by omega, b7, o7, c7, Q2 ++ [q], rfl, ks2 ++ [q], HFIN⟩, ?_⟩, by show l.length - (i + 1) < l.length - i; omega⟩
              first | exact ⟨by simp, rfl, by simp⟩ | (simp; done) | rfl
          · have e1 : (p.toList == a.toList) = false := by
              have : p.toList ≠ a.toList := fun h => h1 (toList_inj h)
              simpa using this
            have HR := Aside0.mk (HSK2.out (fun e => absurd e h1))
            clear h1 HSK2 HAD2 hlk
            go_wp2_with fail
            go_roundw
            case measure => show l.length - (i + 1) < l.length - i; omega
            case rel => exact ⟨i + 1, b2, o2', c2, Q2, ks2, by first | rfl | (simp; done), by omega, rfl, ⟨HN.out.2.2.1, HN.out.2.1, HR.out, HN.out.2.2.2.1, by have := HJ.out.2.2.2.2.1; have := HN.out.2.2.2.2; omega, HJ.out.2.2.2.2.2⟩⟩
        · have d1 : decide (((i : Nat) : Int) < ((l.length : Nat) : Int)) = false := decide_eq_false (by omega)
          obtain rfl : i = l.length := by omega
          have HC := Aside0.mk HJ.out.2.2.1.close
          go_wp2_with fail
          go_roundg (2 * (l.length - ks2.length) + Q2.length)
          case measure => have := HJ.out.2.2.2.2.2; have := HM.out; omega
          case rel => exact ⟨b2, o2', c2, Q2, ks2, rfl, ⟨HJ.out.1, HJ.out.2.1, HC.out, HJ.out.2.2.2.1, HJ.out.2.2.2.2.1⟩, Nat.le_refl _, ⟨by have := HJ.out.2.2.2.2.2; have := HQL.out; simp only [List.length_cons] at this; omega⟩⟩
end Go.Proofs.YtknpkfjaffhejaaGreat

namespace Go.Proofs.YtknpkfjaffhejaaGreat
open Go.RowKit Go.Sort Go.Lib Go.Proofs.YtknpkfjaffhejaaGreatW.PrintWords Go.Proofs.YtknpkfjaffhejaaGreatW.PrintLast Go.Proofs.YtknpkfjaffhejaaGreatW.PrintMore
set_option linter.unusedVariables false
set_option linter.unusedSimpArgs false

/-- Does an edge go out from the start or from what is known up to a place? -/
def hit (proc : ByteArray) (names : List ByteArray) (p : ByteArray) (k : Nat) : Bool := decide (p = proc) || (names.take k).any fun y => decide (y = p)
theorem hit_zero (proc : ByteArray) (names : List ByteArray) (p : ByteArray) : hit proc names p 0 = decide (p = proc) := by simp [hit]
theorem hit_succ (proc : ByteArray) (names : List ByteArray) (p : ByteArray) (k : Nat) (hk : k < names.length) : hit proc names p (k + 1) = (hit proc names p k || decide (names[k]! = p)) := by
  rw [getElem!_pos names k hk]
  unfold hit
  rw [List.take_succ_eq_append_getElem hk, List.any_append]
  simp [Bool.or_assoc]
theorem hit_iff (proc : ByteArray) (names : List ByteArray) (p : ByteArray) : hit proc names p names.length = true ↔ p = proc ∨ p ∈ names := by
  unfold hit
  rw [List.take_length, Bool.or_eq_true, decide_eq_true_eq, List.any_eq_true]
  simp
theorem sorted_nodup {l : List ByteArray} (h : l.Pairwise (fun x y => blt x y = true)) : l.Nodup := h.imp fun {a b} hab e => by
  subst e
  rw [blt_irrefl] at hab
  cases hab
theorem ins_known {l : List ByteArray} {q : ByteArray} (h : l.Pairwise (fun x y => blt x y = true)) (hq : q ∈ l) : ins blt l q = l :=
  sorted_uniq bltSto _ _ (ins_sorted bltSto q l h) h fun x => by
    rw [mem_ins]
    exact ⟨fun e => by rcases e with rfl | e <;> assumption, .inr⟩
theorem ins_fresh {l : List ByteArray} {q : ByteArray} (h : l.Pairwise (fun x y => blt x y = true)) (hq : q ∉ l) : l.length < (ins blt l q).length := by
  have := @nodup_le ByteArray (fun a b => Classical.propDecidable (a = b)) (q :: l) (ins blt l q) (List.nodup_cons.2 ⟨hq, sorted_nodup h⟩) fun x hx => by
    rw [mem_ins]
    exact List.mem_cons.1 hx
  rw [List.length_cons] at this
  exact this

/-- What holds while the edges are passed through once. -/
structure RrI (l : List Edge) (proc : ByteArray) (n0 names : List ByteArray) (b : Bool) (i : Nat) : Prop where
  sorted : names.Pairwise (fun x y => blt x y = true)
  sound : ∀ s ∈ names, Rch l proc s
  le : n0.length ≤ names.length
  same : b = false → names = n0 ∧ ∀ j, j < i → (l[j]!.p = proc ∨ l[j]!.p ∈ names) → l[j]!.q ∈ names
  more : b = true → n0.length < names.length
theorem RrI.skip {l : List Edge} {proc : ByteArray} {n0 names : List ByteArray} {b : Bool} {i : Nat} (h : RrI l proc n0 names b i) (hh : hit proc names l[i]!.p names.length = false) : RrI l proc n0 names b (i + 1) :=
  ⟨h.sorted, h.sound, h.le, fun hb => ⟨(h.same hb).1, fun j hj hp => by
    by_cases e : j = i
    · subst e
      have := (hit_iff proc names l[j]!.p).2 hp
      rw [hh] at this
      cases this
    · exact (h.same hb).2 j (by omega) hp⟩, h.more⟩
theorem RrI.put {l : List Edge} {proc : ByteArray} {n0 names : List ByteArray} {b : Bool} {i : Nat} (h : RrI l proc n0 names b i) (hi : i < l.length) (hh : hit proc names l[i]!.p names.length = true) :
    RrI l proc n0 (ins blt names l[i]!.q) (b || decide (names.length < (ins blt names l[i]!.q).length)) (i + 1) := by
  have hp := (hit_iff proc names l[i]!.p).1 hh
  have hm : l[i]! ∈ l := by rw [getElem!_pos l i hi]; exact List.getElem_mem _
  refine ⟨ins_sorted bltSto _ _ h.sorted, fun s hs => ?_, Nat.le_trans h.le (ins_le _ _), fun hb => ?_, fun hb => ?_⟩
  · rw [mem_ins] at hs
    rcases hs with rfl | hs
    · rcases hp with e | e
      · exact .first _ hm e
      · exact .next _ hm (h.sound _ e)
    · exact h.sound s hs
  · rw [Bool.or_eq_false_iff, decide_eq_false_iff_not] at hb
    have hq : l[i]!.q ∈ names := Classical.byContradiction fun hq => hb.2 (ins_fresh h.sorted hq)
    rw [ins_known h.sorted hq]
    refine ⟨(h.same hb.1).1, fun j hj hpj => ?_⟩
    by_cases e : j = i
    · subst e; exact hq
    · exact (h.same hb.1).2 j (by omega) hpj
  · rw [Bool.or_eq_true, decide_eq_true_eq] at hb
    rcases hb with hb | hb
    · exact Nat.lt_of_lt_of_le (h.more hb) (ins_le _ _)
    · exact Nat.lt_of_le_of_lt h.le hb

set_option maxRecDepth 100000 in
set_option maxHeartbeats 8000000 in
theorem refR_calls (W : World) (v : Value) (l : List Edge) (proc : ByteArray) {m0 : Nat} (h : EdR m0 W v l) (hn : l.length ≤ 1048576) :
    Calls Tryz.prog 11 #[v, .string proc] W fun e W' => ∃ (v' : Value) (names : List ByteArray), e = .returned v' ∧ W'.ownsRow W.heap.size 9 1 v' names.length (names.map Value.string) ∧ names.Pairwise (fun x y => blt x y = true) ∧ (∀ s, s ∈ names ↔ Rch l proc s) ∧ Below W.heap.size W W' := by
  have h' := h
  obtain ⟨A, c, rfl, _⟩ := h'
  have hu39 := Tryz.underlying39
  have hu37 := Tryz.underlying37
  have HE := Aside0.mk h
  clear h
  go_enter Tryz.func11, Tryz.ntmps11
  go_wp2_with fail
  go_loopg [5, 6] (l.length + 2) (fun gg v5 v6 wr => ∃ (A5 : Option Addr) (c5 : Nat) (names : List ByteArray) (mv : Bool), v5 = .slice A5 names.length c5 ∧ v6 = .bool mv ∧ Aside0 (wr.ownsRow W.heap.size 9 1 (.slice A5 names.length c5) names.length (names.map Value.string) ∧ RrI l proc names names false 0 ∧ Below W.heap.size W wr ∧ (mv = false → ∀ e ∈ l, (e.p = proc ∨ e.p ∈ names) → e.q ∈ names)) ∧ (if mv = true then l.length - names.length + 2 else 1) ≤ gg)
  case atStart => exact ⟨none, 0, [], true, rfl, rfl, ⟨World.ownsRow_nil _ _ _ _, ⟨.nil, (fun s h => by cases h), Nat.le_refl _, fun _ => ⟨rfl, fun j hj => by omega⟩, fun h => by cases h⟩, Below.refl _ _, fun h => by cases h⟩, by simp⟩
  case round =>
    obtain ⟨A5, c5, names, mv, rfl, rfl, HI, hgg⟩ := hrel
    cases mv with
    | false =>
      clear hgg
      go_wp2_with fail
      go_ret
      refine ⟨_, rfl, names, HI.out.1, HI.out.2.1.sorted, fun s => reach_done HI.out.2.1.sound (fun x hx e he hp => HI.out.2.2.2 (by first | rfl | trivial) e he (by rw [hp]; exact hx)) s, HI.out.2.2.1⟩
    | true =>
      have HM : Aside0 (l.length - names.length + 2 ≤ gk) := ⟨by simpa using hgg⟩
      have HO : Aside0 (RrI l proc names names false 0) := ⟨HI.out.2.1⟩
      have HW : Aside0 (Below W.heap.size W wr) := ⟨HI.out.2.2.1⟩
      have HS : Aside0 (wr.ownsRow W.heap.size 9 1 (.slice A5 names.length c5) names.length (names.map Value.string)) := ⟨HI.out.1⟩
      clear hgg HI
      go_wp2_with fail
      generalize wr = Wo at *
      go_loopw [5, 6, 7] (fun v5 v6 v7 wr => ∃ (i : Nat) (A6 : Option Addr) (c6 : Nat) (nm : List ByteArray) (b : Bool), v7 = .int .i64 (i : Nat) ∧ i ≤ l.length ∧ v5 = .slice A6 nm.length c6 ∧ v6 = .bool b ∧ Aside0 (wr.ownsRow W.heap.size 9 1 (.slice A6 nm.length c6) nm.length (nm.map Value.string) ∧ RrI l proc names nm b i ∧ Below W.heap.size W wr)) (fun _ _ v wr => l.length - (RowKit.intOf v).toNat)
      case atStart => exact ⟨0, A5, c5, names, false, rfl, Nat.zero_le _, rfl, rfl, ⟨HS.out, HO.out, HW.out⟩⟩
      case round =>
        obtain ⟨i, A6, c6, nm, b, rfl, hi, rfl, rfl, HJ⟩ := hrel
        by_cases hlt : i < l.length
        · have d1 : decide (((i : Nat) : Int) < ((l.length : Nat) : Int)) = true := decide_eq_true (by omega)
          have p0 : ((0 : Int) ≤ ((i : Nat) : Int)) = True := eq_true (by omega)
          have p1 : (((i : Nat) : Int) < ((l.length : Nat) : Int)) = True := eq_true (by omega)
          have HEJ := Aside0.mk (HE.out.below HJ.out.2.2)
          obtain ⟨_, bA, off, rfl, y0, _, y2, _, _, _⟩ := HEJ.out.cells i hlt
          have HSK := Aside0.mk HJ.out.2.1.skip
          have HPT := Aside0.mk (HJ.out.2.1.put hlt)
          have HNL : Aside0 (nm.length ≤ 1048576) := ⟨Nat.le_trans (ks_le (sorted_nodup HJ.out.2.1.sorted) HJ.out.2.1.sound) hn⟩
          obtain ⟨⟨p, n, q, m, kd, vv⟩, hxe⟩ : ∃ y, l[i]! = y := ⟨_, rfl⟩
          rw [hxe] at y0 y2 HSK HPT
          have Hxe := Aside0.mk hxe
          clear hxe
          have HSK2 : Aside0 (hit proc nm p nm.length = false → RrI l proc names nm b (i + 1)) := HSK
          have HPT2 : Aside0 (hit proc nm p nm.length = true → RrI l proc names (ins blt nm q) (b || decide (nm.length < (ins blt nm q).length)) (i + 1)) := HPT
          clear HSK HPT
          generalize wr = Wi at *
          have HY := Aside0.mk (And.intro y0 y2)
          have he0 : ∃ t, decide (p.toList = proc.toList) = t := ⟨_, rfl⟩
          obtain ⟨t0, ht0⟩ := he0
          have e1 : (p.toList == proc.toList) = t0 := by rw [← ht0]; by_cases h : p.toList = proc.toList <;> simp [h]
          have HT0 : Aside0 (t0 = hit proc nm p 0) := ⟨by
            rw [hit_zero, ← ht0]
            by_cases e : p = proc
            · subst e; simp
            · have : p.toList ≠ proc.toList := fun h => e (toList_inj h)
              simp [e, this]⟩
          clear ht0 p0 p1 d1
          have d1 : decide (((i : Nat) : Int) < ((l.length : Nat) : Int)) = true := decide_eq_true (by omega)
          have p0 : ((0 : Int) ≤ ((i : Nat) : Int)) = True := eq_true (by omega)
          have p1 : (((i : Nat) : Int) < ((l.length : Nat) : Int)) = True := eq_true (by omega)
          go_wp2_with fail
          clear y0 y2 e1 d1
          go_loopw [8, 9] (fun v8 v wr => ∃ k : Nat, v = .int .i64 (k : Nat) ∧ k ≤ nm.length ∧ v8 = .bool (hit proc nm p k) ∧ Aside0 (Below Wi.heap.size Wi wr)) (fun _ v wr => nm.length - (RowKit.intOf v).toNat)
          case atStart => exact ⟨0, rfl, Nat.zero_le _, by rw [HT0.out], ⟨Below.refl _ _⟩⟩
          case round =>
            obtain ⟨k, rfl, hk, rfl, HK⟩ := hrel
            by_cases hkt : k < nm.length
            · have hnl := HNL.out
              have d1 : decide (((k : Nat) : Int) < ((nm.length : Nat) : Int)) = true := decide_eq_true (by omega)
              have p2 : ((0 : Int) ≤ ((k : Nat) : Int)) = True := eq_true (by omega)
              have p3 : (((k : Nat) : Int) < ((nm.length : Nat) : Int)) = True := eq_true (by omega)
              obtain ⟨b', off', rfl, z0⟩ := ((StR.of_owns HJ.out.1).below HK.out).cell k hkt
              have y0 := cell_below HK.out HY.out.1
              have HPS := Aside0.mk (hit_succ proc nm p k hkt)
              obtain ⟨t, hpk⟩ : ∃ t, hit proc nm p k = t := ⟨_, rfl⟩
              rw [hpk] at HPS ⊢
              obtain ⟨s, hs⟩ : ∃ s, hit proc nm p (k + 1) = s := ⟨_, rfl⟩
              have HSS := Aside0.mk hs
              rw [hs] at HPS
              clear hs hpk
              generalize nm[k]! = yk at *
              cases t
              · by_cases h1 : yk = p
                · have e1 : (yk.toList == p.toList) = true := by rw [h1]; simp
                  have HT : Aside0 (s = true) := ⟨by rw [HPS.out]; simp [h1]⟩
                  clear h1 HPS
                  go_wp2_with fail
                  go_quiet (fail)
                  go_wp2_with fail
                  go_roundw
                  case measure => show nm.length - (k + 1) < nm.length - k; omega
                  case rel => exact ⟨k + 1, by first | rfl | (simp; done), by omega, by rw [HSS.out, HT.out], ⟨HK.out.trans (((Gr.refl wr).drewN nq).below.mono HK.out.size)⟩⟩
                · have e1 : (yk.toList == p.toList) = false := by
                    have : yk.toList ≠ p.toList := fun h => h1 (toList_inj h)
                    simpa using this
                  have HT : Aside0 (s = false) := ⟨by rw [HPS.out]; simp [h1]⟩
                  clear h1 HPS
                  go_wp2_with fail
                  go_quiet (fail)
                  go_wp2_with fail
                  go_roundw
                  case measure => show nm.length - (k + 1) < nm.length - k; omega
                  case rel => exact ⟨k + 1, by first | rfl | (simp; done), by omega, by rw [HSS.out, HT.out], ⟨HK.out.trans (((Gr.refl wr).drewN nq).below.mono HK.out.size)⟩⟩
              · have HT : Aside0 (s = true) := ⟨by rw [HPS.out]; simp⟩
                clear HPS
                go_wp2_with fail
                go_quiet (fail)
                go_wp2_with fail
                go_roundw
                case measure => show nm.length - (k + 1) < nm.length - k; omega
                case rel => exact ⟨k + 1, by first | rfl | (simp; done), by omega, by rw [HSS.out, HT.out], ⟨HK.out.trans (((Gr.refl wr).drewN nq).below.mono HK.out.size)⟩⟩
            · have d1 : decide (((k : Nat) : Int) < ((nm.length : Nat) : Int)) = false := decide_eq_false (by omega)
              obtain rfl : k = nm.length := by omega
              have y2 := cell_below HK.out HY.out.2
              have HB := Aside0.mk (below_to HJ.out.2.2 HK.out)
              have hpc := name_calls wr _ nm q (owns_below HJ.out.1 HK.out) HB.out.size (Nat.le_trans HNL.out (by omega))
              have HPC := Aside0.mk hpc
              have HOW := Aside0.mk (owns_below HJ.out.1 HK.out)
              clear hpc
              obtain ⟨t, hpk⟩ : ∃ t, hit proc nm p nm.length = t := ⟨_, rfl⟩
              rw [hpk] at HSK2 HPT2 ⊢
              clear hpk
              cases t
              · have HR := Aside0.mk (HSK2.out rfl)
                clear HSK2 HPT2 HPC y2
                go_wp2_with fail
                go_roundw
                case measure => show l.length - (i + 1) < l.length - i; omega
                case rel => exact ⟨i + 1, A6, c6, nm, b, by first | rfl | (simp; done), by omega, rfl, rfl, ⟨HOW.out, HR.out, HB.out⟩⟩
              · have HR := Aside0.mk (HPT2.out rfl)
                clear HSK2 HPT2
                obtain ⟨N, hN⟩ : ∃ N, ins blt nm q = N := ⟨_, rfl⟩
                rw [hN] at HPC HR
                clear hN
                cases b
                · have HR2 : Aside0 (RrI l proc names N (decide (nm.length < N.length)) (i + 1)) := ⟨by simpa using HR.out⟩
                  clear HR
                  go_wp2_with (go_at_call 28; refine HPC.out.mono ?_; rintro e W2 ⟨hb2, v2, rfl, how2⟩; obtain ⟨A7, c7, rfl⟩ := owns_form how2; have HB2 := Aside0.mk (And.intro hb2 how2); clear hb2 how2)
                  go_roundw
                  case measure => show l.length - (i + 1) < l.length - i; omega
                  case rel => exact ⟨i + 1, A7, c7, N, _, by first | rfl | (simp; done), by omega, rfl, rfl, ⟨HB2.out.2, HR2.out, below_to HB.out HB2.out.1⟩⟩
                · have HR2 : Aside0 (RrI l proc names N true (i + 1)) := ⟨by simpa using HR.out⟩
                  clear HR
                  go_wp2_with (go_at_call 28; refine HPC.out.mono ?_; rintro e W2 ⟨hb2, v2, rfl, how2⟩; obtain ⟨A7, c7, rfl⟩ := owns_form how2; have HB2 := Aside0.mk (And.intro hb2 how2); clear hb2 how2)
                  go_roundw
                  case measure => show l.length - (i + 1) < l.length - i; omega
                  case rel => exact ⟨i + 1, A7, c7, N, true, by first | rfl | (simp; done), by omega, rfl, rfl, ⟨HB2.out.2, HR2.out, below_to HB.out HB2.out.1⟩⟩
        · have d1 : decide (((i : Nat) : Int) < ((l.length : Nat) : Int)) = false := decide_eq_false (by omega)
          obtain rfl : i = l.length := by omega
          have hks := ks_le (sorted_nodup HJ.out.2.1.sorted) HJ.out.2.1.sound
          have HKS := Aside0.mk hks
          clear hks
          have HFI : Aside0 (RrI l proc nm nm false 0) := ⟨⟨HJ.out.2.1.sorted, HJ.out.2.1.sound, Nat.le_refl _, fun _ => ⟨rfl, fun j hj => by omega⟩, fun h => by cases h⟩⟩
          go_wp2_with fail
          go_roundg (if b = true then l.length - nm.length + 2 else 1)
          case measure =>
            have h1 := HM.out
            have h2 := HJ.out.2.1.more
            have h3 := HKS.out
            cases b
            · simp; omega
            · have := h2 rfl
              simp
              omega
          case rel => exact ⟨A6, c6, nm, b, rfl, rfl, ⟨HJ.out.1, HFI.out, HJ.out.2.2, fun hb e he hp => by
            obtain ⟨j, hj, rfl⟩ := List.getElem_of_mem he
            have := (HJ.out.2.1.same hb).2 j hj
            rw [getElem!_pos l j hj] at this
            exact this hp⟩, Nat.le_refl _⟩
end Go.Proofs.YtknpkfjaffhejaaGreat
