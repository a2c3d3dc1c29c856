/- WHAT IS PROVED: what a scan of a well-formed tree gives, in plain lists; the document's Scan is that. -/
import Derived.Test.YtjabcdfbncglnaaLB12
import Derived.Test.YtjabcdfbncglnaaLB11
namespace Go.Proofs.Ytjabcdfbncglnaa
open Go.RowKit
open PTreeRanks (S59 k59 z59)
set_option linter.unusedVariables false
set_option linter.unusedSimpArgs false

/-- From f on and below u. -/
def inB (f u : ByteArray) (y : S59) : Bool := !blt y.f0 f && blt y.f0 u
def scanL (f u : ByteArray) (l : List S59) : List S59 := l.filter (inB f u)

theorem scanL_append (f u : ByteArray) (a b : List S59) : scanL f u (a ++ b) = scanL f u a ++ scanL f u b := List.filter_append ..
theorem scanL_nil_low {f u : ByteArray} {a : List S59} (h : ∀ y ∈ a, blt y.f0 f = true) : scanL f u a = [] :=
  List.filter_eq_nil_iff.2 fun y hy => by simp [inB, h y hy]
theorem scanL_nil_high {f u : ByteArray} {a : List S59} (h : ∀ y ∈ a, blt y.f0 u = false) : scanL f u a = [] :=
  List.filter_eq_nil_iff.2 fun y hy => by simp [inB, h y hy]
theorem scanL_length (f u : ByteArray) (a : List S59) : (scanL f u a).length ≤ a.length := List.length_filter_le ..

theorem ref_scan {l : List S59} (f u : ByteArray) (hn : l.length < 5864062014800) : ∀ (k i : Nat) (out : List S59), l.length + 1 ≤ k + i → i ≤ l.length → out.length ≤ i →
    PTreeRanks.keystoneref05_Scan.l0 k l f u out i = some (out ++ scanL f u (l.drop i))
  | 0, i, out, h1, h2, h3 => absurd h1 (by omega)
  | k + 1, i, out, h1, h2, h3 => by
    unfold PTreeRanks.keystoneref05_Scan.l0
    by_cases hi : i < l.length
    · have ih := ref_scan f u hn k (i + 1)
      rw [if_pos (by omega), if_pos (by omega), rd_eq l i hi, List.drop_eq_getElem_cons hi, wrap_small _ (show (0 : Int) ≤ (i : Nat) + 1 by omega) (by omega)]
      have e : ((i : Nat) : Int) + 1 = ((i + 1 : Nat) : Int) := by omega
      have e1 : Op.bytesLess l[i].f0.toList f.toList = blt l[i].f0 f := rfl
      have e2 : Op.bytesLess l[i].f0.toList u.toList = blt l[i].f0 u := rfl
      rw [e, e1, e2]
      unfold scanL
      rw [List.filter_cons]
      unfold inB
      cases h4 : blt l[i].f0 f
      · cases h5 : blt l[i].f0 u
        · rw [if_neg (by decide), if_neg (by decide), ih out (by omega) (by omega) (by omega)]
          rfl
        · rw [if_neg (by decide), if_pos rfl, if_pos (by omega), ih _ (by omega) (by omega) (by rw [List.length_append, List.length_singleton]; omega), List.append_assoc]
          rfl
      · rw [if_pos rfl, ih out (by omega) (by omega) (by omega)]
        rfl
    · rw [if_neg (by omega), List.drop_eq_nil_of_le (by omega)]
      simp [scanL]

theorem refScan {l : List S59} (f u : ByteArray) (hn : l.length < 5864062014800) : PTreeRanks.keystoneref05_Scan.f (l.length + 1) l f u = some (scanL f u l) := by
  have := ref_scan f u hn (l.length + 1) 0 [] (by omega) (by omega) (by simp)
  rw [List.drop_zero, List.nil_append] at this
  exact this

/-! ### A leaf -/
theorem leaf_low {l : List S59} {f : ByteArray} (u : ByteArray) (hs : SortedK (keysOf l)) : scanL f u (l.take (rank (keysOf l) f)) = [] := by
  refine scanL_nil_low fun y hy => ?_
  obtain ⟨j, hj, rfl⟩ := List.getElem_of_mem hy
  have hr := rank_le (keysOf l) f
  rw [keysOf_length] at hr
  rw [List.length_take] at hj
  have hjl : j < (keysOf l).length := by rw [keysOf_length]; omega
  have := (rank_lt (k := f) hs j hjl).2 (by omega)
  rw [List.getElem_take]
  have e : (keysOf l)[j] = (l[j]'(by rw [keysOf_length] at hjl; exact hjl)).f0 := List.getElem_map (l := l) S59.f0
  rw [← e]
  exact this
theorem leaf_step {l : List S59} {f u : ByteArray} (hs : SortedK (keysOf l)) (i : Nat) (hi : i < l.length) (hr : rank (keysOf l) f ≤ i) (hu : blt l[i].f0 u = true) : scanL f u (l.take (i + 1)) = scanL f u (l.take i) ++ [l[i]] := by
  have hjl : i < (keysOf l).length := by rw [keysOf_length]; omega
  have e : (keysOf l)[i] = l[i].f0 := List.getElem_map (l := l) S59.f0
  have h0 : blt l[i].f0 f = false := by
    cases h : blt l[i].f0 f with
    | false => rfl
    | true => exact absurd ((rank_lt (k := f) hs i hjl).1 (by rw [e]; exact h)) (by omega)
  rw [List.take_succ_eq_append_getElem hi, scanL_append]
  congr 1
  unfold scanL
  rw [List.filter_cons, if_pos (by simp [inB, h0, hu])]
  rfl
theorem leaf_high {l : List S59} {f u : ByteArray} (hs : SortedK (keysOf l)) (i : Nat) (hi : i < l.length) (hu : blt l[i].f0 u = false) : scanL f u l = scanL f u (l.take i) := by
  conv => lhs; rw [← List.take_append_drop i l]
  rw [scanL_append, scanL_nil_high (a := l.drop i), List.append_nil]
  intro y hy
  rw [List.drop_eq_getElem_cons hi] at hy
  rcases List.mem_cons.1 hy with rfl | hy
  · exact hu
  · obtain ⟨j, hj, rfl⟩ := List.getElem_of_mem hy
    rw [List.length_drop] at hj
    rw [List.getElem_drop]
    have h1 : i < (keysOf l).length := by rw [keysOf_length]; omega
    have h2 : i + 1 + j < (keysOf l).length := by rw [keysOf_length]; omega
    have h3 := List.pairwise_iff_getElem.1 hs i (i + 1 + j) h1 h2 (by omega)
    have e1 : (keysOf l)[i] = l[i].f0 := List.getElem_map (l := l) S59.f0
    have e2 : (keysOf l)[i + 1 + j] = (l[i + 1 + j]'(by omega)).f0 := List.getElem_map (l := l) S59.f0
    rw [e1, e2] at h3
    cases h4 : blt (l[i + 1 + j]'(by omega)).f0 u with
    | false => rfl
    | true => rw [blt_trans h3 h4] at hu; cases hu

/-! ### An inner node -/
section
variable {α : Type} {P : Option ByteArray → Option ByteArray → α → Prop} {toL : α → List S59}
theorem WK_drop : ∀ {lo hi : Option ByteArray} {ks : List ByteArray} {cs : List α}, WK P lo hi ks cs → ∀ i (h : i < ks.length), WK P (some ks[i]) hi (ks.drop (i + 1)) (cs.drop (i + 1))
  | _, _, [], _, _, i, h => absurd h (by simp)
  | _, _, _ :: _, [], h, _, _ => h.elim
  | lo, hi, k :: ks, c :: cs, h, 0, _ => h.2
  | lo, hi, k :: ks, c :: cs, h, i + 1, hi' => WK_drop h.2 i (Nat.lt_of_succ_lt_succ hi')
theorem WK_take : ∀ {lo hi : Option ByteArray} {ks : List ByteArray} {cs : List α}, WK P lo hi ks cs → ∀ i (h : i < ks.length), WK P lo (some ks[i]) (ks.take i) (cs.take (i + 1))
  | _, _, [], _, _, i, h => absurd h (by simp)
  | _, _, _ :: _, [], h, _, _ => h.elim
  | lo, hi, k :: ks, c :: cs, h, 0, _ => h.1
  | lo, hi, k :: ks, c :: cs, h, i + 1, hi' => ⟨h.1, WK_take h.2 i (Nat.lt_of_succ_lt_succ hi')⟩
end

theorem kx_low {k : ByteArray} : ∀ {ks : List ByteArray} (j : Nat) (hj : j < ks.length), j < kx ks k → blt k ks[j] = false
  | [], j, hj, _ => absurd hj (by simp)
  | k0 :: ks, j, hj, h => by
    unfold kx at h
    by_cases h0 : blt k k0 = true
    · rw [if_pos h0] at h
      exact absurd h (by omega)
    · rw [if_neg h0] at h
      cases j with
      | zero => exact Bool.eq_false_iff.2 h0
      | succ j => exact kx_low j (Nat.lt_of_succ_lt_succ hj) (by omega)
theorem inner_low {order d m : Nat} (ho : 3 ≤ order) {lo hi : Option ByteArray} {ks : List ByteArray} {cs : List (T d)} (f u : ByteArray) (h : WF order (d + 1) m lo hi ((ks, cs) : List ByteArray × List (T d))) :
    scanL f u ((cs.take (kidIx ks f)).flatMap (toList d)) = [] := by
  obtain ⟨h1, h2, h3⟩ := WF_succ.1 h
  obtain ⟨f1, f2, f3, f4⟩ := WK_facts (WF_P ho d) h1
  have hle := kidIx_le ks f
  have e := kx_eq (k := f) f1
  cases hj : kidIx ks f with
  | zero => rw [List.take_zero]; rfl
  | succ j =>
    have hjl : j < ks.length := by omega
    have hlow := kx_low (k := f) j hjl (by omega)
    obtain ⟨g1, g2, g3, g4⟩ := WK_facts (WF_P ho d) (WK_take h1 j hjl)
    refine scanL_nil_low fun y hy => ?_
    obtain ⟨c, hc, hy⟩ := List.mem_flatMap.1 hy
    exact blt_le ((g3 c hc y hy).2 _ rfl) hlow
theorem inner_high {order d m : Nat} (ho : 3 ≤ order) {lo hi : Option ByteArray} {ks : List ByteArray} {cs : List (T d)} (f : ByteArray) {u : ByteArray} (h : WF order (d + 1) m lo hi ((ks, cs) : List ByteArray × List (T d))) (i : Nat) (hi : i < ks.length) (hu : blt ks[i] u = false) :
    scanL f u (cs.flatMap (toList d)) = scanL f u ((cs.take (i + 1)).flatMap (toList d)) := by
  obtain ⟨h1, h2, h3⟩ := WF_succ.1 h
  obtain ⟨f1, f2, f3, f4⟩ := WK_facts (WF_P ho d) (WK_drop h1 i hi)
  conv => lhs; rw [← List.take_append_drop (i + 1) cs, List.flatMap_append]
  rw [scanL_append, scanL_nil_high (a := (cs.drop (i + 1)).flatMap (toList d)), List.append_nil]
  intro y hy
  obtain ⟨c, hc, hy⟩ := List.mem_flatMap.1 hy
  have := (f3 c hc y hy).1 _ rfl
  cases h4 : blt y.f0 u with
  | false => rfl
  | true =>
    cases h5 : blt ks[i] y.f0 with
    | true => rw [blt_trans h5 h4] at hu; cases hu
    | false =>
      have e := blt_tri this h5
      rw [← e] at hu
      rw [hu] at h4
      cases h4
end Go.Proofs.Ytjabcdfbncglnaa
