/- WHAT IS PROVED: what the reading of an argument gives: the edges of a slice, and that they are no more than the bulk. -/
import Derived.Test.YtknpkfjaffhejaaGreatRows
import Derived.Test.YtknpkfjaffhejaaGreatDc
import Derived.WalkKit
import Derived.ProofKit
import Derived.OpenShut
import Derived.JoinedCond
import Derived.ShutString
import Derived.ChangeOld
import Derived.Below
import Derived.Deep.Slices
import Derived.Deep.Fields
import Derived.ChangeSame
namespace Go.Proofs.YtknpkfjaffhejaaGreat.Opn
open Go.ChangeShapes Go.WideShapes Go.ChangeAt Go.RowKit Go.Deep Go.Proofs.YtknpkfjaffhejaaGreatW.PrintWords
set_option linter.unusedVariables false
set_option linter.unusedSimpArgs false
theorem own : ownKnob Tryz.prog.godebug = none := by kernel_rfl
theorem laidOut : laidOutB Tryz.prog = true := by kernel_rfl

theorem bulk_one {H : Type} (d : DataW H) : 1 ≤ Rows.uptoBulk d := by
  cases d with
  | lit l => cases l <;> simp [Rows.uptoBulk]
  | nil => simp [Rows.uptoBulk]
  | ptr d => simp [Rows.uptoBulk]
  | slice elems spare => simp [Rows.uptoBulk]
  | agg parts => simp [Rows.uptoBulk]
  | iface t d => simp [Rows.uptoBulk]
  | map entries => simp [Rows.uptoBulk]
  | held h => simp [Rows.uptoBulk]
theorem bulk_part {H : Type} {d : DataW H} {l : List (DataW H)} (h : d ∈ l) : Rows.uptoBulk d ≤ Rows.uptoBulkAll l := by
  induction l with
  | nil => cases h
  | cons x r ih =>
    simp only [Rows.uptoBulkAll]
    cases List.mem_cons.1 h with
    | inl e => subst e; omega
    | inr e => have := ih e; omega
theorem bulk_length {H : Type} (l : List (DataW H)) : l.length ≤ Rows.uptoBulkAll l := by
  induction l with
  | nil => simp [Rows.uptoBulkAll]
  | cons x r ih => have := bulk_one x; simp only [Rows.uptoBulkAll, List.length_cons]; omega
theorem bulk_slice {H : Type} (elems spare : List (DataW H)) : elems.length + 1 ≤ Rows.uptoBulk (.slice elems spare) := by
  have h1 := bulk_length elems
  simp only [Rows.uptoBulk]
  omega
theorem bulk_bound {H : Type} {l : List (DataW H)} (hk : Rows.uptoSmall H l = true) : Rows.uptoBulkAll l ≤ 1048576 := by
  have h := of_decide_eq_true hk
  exact h

theorem c3 : Tryz.prog.cellsOf 3 = 1 := by kernel_rfl
theorem c4 : Tryz.prog.cellsOf 4 = 1 := by kernel_rfl
theorem c9 : Tryz.prog.cellsOf 9 = 1 := by kernel_rfl
theorem c29 : Tryz.prog.cellsOf 37 = 2 := by kernel_rfl
theorem c31 : Tryz.prog.cellsOf 39 = 6 := by kernel_rfl
section
variable {H : Type} {enc : TypeId × Value → H} {W : World} {base : Nat} {sp : Nat → Bool} {held : Bool}
theorem read_id {fuel : Nat} {cs : List Value} {x : DataW H × List MemPlace} (h : DataW.trod enc Tryz.prog W base sp held fuel 37 cs = some x) : ∃ (p : ByteArray) (n : Int), cs = [.string p, .int .i64 n] ∧ okS p ∧ wfN n := by
  obtain ⟨y0, y1, n, _, hl, h0, h1⟩ := trod_struct2 Tryz.underlying37 h
  dsimp only at h0 h1
  rw [c9] at h0
  rw [c3] at h1
  rw [c29] at hl
  obtain ⟨p, hp, _, hs⟩ := DataW.trod_string Tryz.underlying9 h0
  obtain ⟨m, hm, _, hw⟩ := DataW.trod_int Tryz.underlying3 h1
  have hl2 : cs.length = 2 := hl
  match cs, hl2 with
  | [a, b], _ =>
    have e0 : [a] = [.string p] := hp
    have e1 : [b] = [.int .i64 m] := hm
    injection e0 with e0
    injection e1 with e1
    subst e0 e1
    exact ⟨p, m, rfl, hs, hw⟩
set_option maxRecDepth 100000 in
theorem read_edge {fuel : Nat} {cs : List Value} {x : DataW H × List MemPlace} (h : DataW.trod enc Tryz.prog W base sp held fuel 39 cs = some x) : ∃ e : Edge, cs = encE e ∧ okE e := by
  obtain ⟨xs, n, _, _, hl, hlen, hf⟩ := DataW.trod_struct Tryz.underlying39 h
  have hl6 : cs.length = 6 := hl.trans c31
  match cs, hl6 with
  | [a, b, c, d, e, f], _ =>
    have h0 : DataW.trod enc Tryz.prog W base sp held n 37 (([a, b, c, d, e, f].drop 0).take (Tryz.prog.cellsOf 37)) = xs[0]? := hf 0 _ rfl
    have h1 : DataW.trod enc Tryz.prog W base sp held n 37 (([a, b, c, d, e, f].drop 2).take (Tryz.prog.cellsOf 37)) = xs[1]? := hf 1 _ rfl
    have h2 : DataW.trod enc Tryz.prog W base sp held n 3 (([a, b, c, d, e, f].drop 4).take (Tryz.prog.cellsOf 3)) = xs[2]? := hf 2 _ rfl
    have h3 : DataW.trod enc Tryz.prog W base sp held n 4 (([a, b, c, d, e, f].drop 5).take (Tryz.prog.cellsOf 4)) = xs[3]? := hf 3 _ rfl
    rw [c29] at h0 h1
    rw [c3] at h2
    rw [c4] at h3
    match xs, hlen with
    | [z0, z1, z2, z3], _ =>
      obtain ⟨p, n, e0, hp, hwn⟩ := read_id h0
      obtain ⟨q, m, e1, hq, hwm⟩ := read_id h1
      obtain ⟨k, e2, _, _⟩ := DataW.trod_int Tryz.underlying3 h2
      obtain ⟨v, e3, _⟩ := DataW.trod_bool Tryz.underlying4 h3
      have e0' : [a, b] = [.string p, .int .i64 n] := e0
      have e1' : [c, d] = [.string q, .int .i64 m] := e1
      have e2' : [e] = [.int .i64 k] := e2
      have e3' : [f] = [.bool v] := e3
      simp only [List.cons.injEq, and_true] at e0' e1' e2' e3'
      obtain ⟨rfl, rfl⟩ := e0'
      obtain ⟨rfl, rfl⟩ := e1'
      subst e2' e3'
      exact ⟨⟨p, n, q, m, k, v⟩, rfl, hp, hq, hwn, hwm⟩

/-- The row of edges, as it is read. -/
theorem edges_read {A : Option Addr} {len cap : Nat} {d : DataW H} {ps : List MemPlace} (h : DataW.Trod enc Tryz.prog W base sp held 22 (.slice A len cap) d ps) :
    ∃ l : List Edge, len = l.length ∧ EdR 0 W (.slice A l.length cap) l ∧ l.length ≤ Rows.uptoBulk d ∧ ∀ e ∈ l, okE e := by
  obtain ⟨fuel, hf⟩ := h
  rcases open_slice Tryz.underlying22 hf with ⟨hcs, hx⟩ | ⟨a, len', c, m, n, D, Pl, hcs, hb, hl, hm, hmm, hx, hi⟩
  · simp [Value.cells] at hcs
    obtain ⟨rfl, rfl, rfl⟩ := hcs
    exact ⟨[], rfl, EdR.nil _ _ rfl, Nat.zero_le _, fun e he => by cases he⟩
  · simp [Value.cells] at hcs
    obtain ⟨rfl, rfl, rfl⟩ := hcs
    rw [c31] at hi
    have hlm : len ≤ m := by rw [hmm]; split <;> omega
    have hall : ∀ i, i < len → ∃ e : Edge, (∀ j, j < 6 → W.cell? (a.add (i * 6 + j)) = (encE e)[j]?) ∧ okE e := fun i hil => by
      obtain ⟨cs', hc, ht⟩ := hi i (by omega)
      obtain ⟨e, rfl, hok⟩ := read_edge ht
      obtain ⟨_, _, hat⟩ := World.cells?_some hc
      refine ⟨e, fun j hj => ?_, hok⟩
      have := hat j hj
      rw [← this, Go.Deep.add_add]
    obtain ⟨f, hf2⟩ : ∃ f : Nat → Edge, ∀ i, i < len → (∀ j, j < 6 → W.cell? (a.add (i * 6 + j)) = (encE (f i))[j]?) ∧ okE (f i) :=
      ⟨fun i => if h : i < len then (hall i h).choose else default, fun i h => by simp only [h, dif_pos]; exact (hall i h).choose_spec⟩
    have hlen : ((List.range len).map f).length = len := by simp
    have hget : ∀ i, i < len → ((List.range len).map f)[i]! = f i := fun i h => by rw [getElem!_pos _ i (by rw [hlen]; exact h)]; simp
    refine ⟨(List.range len).map f, hlen.symm, ⟨some a, cap, rfl, fun hne => ?_⟩, ?_, fun e he => ?_⟩
    · have h0 : 0 < len := by
        rcases Nat.eq_zero_or_pos len with h | h
        · subst h; exact absurd rfl hne
        · exact h
      obtain ⟨b, off, spot⟩ := a
      have hspot : spot = none := by
        have := (hf2 0 h0).1 0 (by omega)
        simpa [Addr.add] using World.cell?_spot this
      subst hspot
      refine ⟨b, off, rfl, Nat.zero_le _, fun j u hj => ?_⟩
      have hj6 : j < len * 6 := by
        have := (List.getElem?_eq_some_iff.1 hj).1
        rw [flatE_len, hlen] at this
        exact this
      rw [flatE_get _ _ (by rw [hlen]; exact hj6), hget _ (by omega)] at hj
      have := (hf2 (j / 6) (by omega)).1 (j % 6) (Nat.mod_lt _ (by omega))
      rw [hj, Addr.add_lit] at this
      rw [← this]
      congr 2
      omega
    · simp only [Prod.mk.injEq] at hx
      rw [hlen, hx.1]
      refine Nat.le_trans ?_ (Nat.le_trans (Nat.le_succ _) (bulk_slice _ _))
      simp
    · obtain ⟨i, hi2, rfl⟩ := List.mem_map.1 he
      exact (hf2 i (List.mem_range.1 hi2)).2
theorem edges_cap {A : Option Addr} {len cap : Nat} {d : DataW H} {ps : List MemPlace} (h : DataW.Trod enc Tryz.prog W base sp held 22 (.slice A len cap) d ps) : len ≤ cap := by
  obtain ⟨fuel, hf⟩ := h
  rcases open_slice Tryz.underlying22 hf with ⟨hcs, hx⟩ | ⟨a, len', c, m, n, D, Pl, hcs, hb, hl, hm, hmm, hx, hi⟩
  · simp [Value.cells] at hcs
    obtain ⟨rfl, rfl, rfl⟩ := hcs
    exact Nat.le_refl _
  · simp [Value.cells] at hcs
    obtain ⟨rfl, rfl, rfl⟩ := hcs
    exact hl
end
end Go.Proofs.YtknpkfjaffhejaaGreat.Opn
