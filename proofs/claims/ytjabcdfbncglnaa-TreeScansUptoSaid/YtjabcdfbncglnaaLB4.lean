/- WHAT IS PROVED: put keeps a tree well-formed and inserts into its flat list. the strings of a tree's nodes are no longer than those that were put in. what a well-formed tree answers to a key is what its flat list answers. what drop computes on a tree of any depth keeps the tree well-formed and takes the key out of its flat list. few tells whether a node has too little. slices.Delete of one element of a row of one's own (str), and a list without one. -/
import Derived.Test.YtjabcdfbncglnaaLB3
import Derived.Test.YtjabcdfbncglnaaLB2
import Derived.Lib.SliceRun
import Derived.Deep.RegionLaw
namespace Go.Proofs.Ytjabcdfbncglnaa
open Go.RowKit Go.Proofs.YtjabcdfbncglnaaW.PrintWords Go.Proofs.YtjabcdfbncglnaaW.PrintLast Go.Proofs.YtjabcdfbncglnaaW.PrintMore
open PTreeRanks (S59 k59 z59)
set_option linter.unusedVariables false
set_option linter.unusedSimpArgs false

theorem take_rank {ks : List ByteArray} {k : ByteArray} (hs : SortedK ks) : ∀ x ∈ ks.take (rank ks k), blt x k = true := by
  intro x hx
  obtain ⟨i, hi, rfl⟩ := List.getElem_of_mem hx
  rw [List.length_take] at hi
  rw [List.getElem_take]
  exact (rank_lt hs i (by omega)).2 (by omega)
theorem drop_rank {ks : List ByteArray} {k : ByteArray} (hs : SortedK ks) : ∀ x ∈ ks.drop (rank ks k + if has ks k then 1 else 0), blt k x = true := by
  intro x hx
  obtain ⟨i, hi, rfl⟩ := List.getElem_of_mem hx
  rw [List.length_drop] at hi
  rw [List.getElem_drop]
  have hr := rank_le ks k
  by_cases h : has ks k = true
  · rw [if_pos h] at hi
    have h1 := has_lt h
    have h2 : ks[rank ks k] = k := by
      unfold has at h
      have := of_decide_eq_true h
      rw [List.getElem?_eq_getElem h1] at this
      exact Option.some.inj this
    have h3 := List.pairwise_iff_getElem.1 hs (rank ks k) (rank ks k + 1 + i) h1 (by omega) (by omega)
    rw [h2] at h3
    simp only [h, if_true]
    exact h3
  · simp only [h, Bool.false_eq_true, if_false, Nat.add_zero] at hi ⊢
    have h1 : ¬ blt ks[rank ks k + i] k = true := fun e => by
      have := (rank_lt hs _ (by omega)).1 e
      omega
    cases h2 : blt k ks[rank ks k + i] with
    | true => rfl
    | false =>
      have e := blt_tri (Bool.eq_false_iff.2 h1) h2
      have : k ∈ ks := by rw [← e]; exact List.getElem_mem _
      exact absurd ((has_iff hs).2 this) h

theorem keysOf_insL (l : List S59) (k : ByteArray) (x : Int) : keysOf (insL l k x) = (keysOf l).take (rank (keysOf l) k) ++ k :: (keysOf l).drop (rank (keysOf l) k + if has (keysOf l) k then 1 else 0) := by
  unfold insL
  rw [keysOf_append]
  unfold keysOf
  rw [List.map_cons, List.map_take, List.map_drop]
theorem insL_sorted {l : List S59} (hs : SortedK (keysOf l)) (k : ByteArray) (x : Int) : SortedK (keysOf (insL l k x)) := by
  rw [keysOf_insL]
  refine List.pairwise_append.2 ⟨sorted_take hs _, List.pairwise_cons.2 ⟨drop_rank hs, sorted_drop hs _⟩, ?_⟩
  intro a ha b hb
  have h1 := take_rank hs a ha
  rcases List.mem_cons.1 hb with rfl | hb
  · exact h1
  · exact blt_trans h1 (drop_rank hs b hb)
theorem insL_mem {l : List S59} {k : ByteArray} {x : Int} {y : ByteArray} (h : y ∈ keysOf (insL l k x)) : y = k ∨ y ∈ keysOf l := by
  rw [keysOf_insL] at h
  rcases List.mem_append.1 h with h | h
  · exact .inr (List.mem_of_mem_take h)
  · rcases List.mem_cons.1 h with h | h
    · exact .inl h
    · exact .inr (List.mem_of_mem_drop h)
theorem insL_length (l : List S59) (k : ByteArray) (x : Int) : (insL l k x).length = l.length + if has (keysOf l) k then 0 else 1 := by
  unfold insL
  have h0 := rank_le (keysOf l) k
  rw [keysOf_length] at h0
  rw [List.length_append, List.length_cons, List.length_take, List.length_drop]
  by_cases h : has (keysOf l) k = true
  · have := has_lt h
    rw [keysOf_length] at this
    simp only [h, if_true]
    omega
  · simp only [h]
    simp
    omega

theorem putLeaf_WF {order m : Nat} (ho : 3 ≤ order) {lo hi : Option ByteArray} {l : List S59} {k : ByteArray} {x : Int} (h : WF order 0 m lo hi l) (hk : inR lo hi k) : PutWF order 0 m lo hi (insL l k x) (putLeaf order l k x) := by
  obtain ⟨h1, h2, h3, h4⟩ := WF_zero.1 h
  have hs := insL_sorted h1 k x
  have hr : ∀ y ∈ keysOf (insL l k x), inR lo hi y := fun y hy => by
    rcases insL_mem hy with rfl | hy
    · exact hk
    · exact h2 y hy
  have hlen := insL_length l k x
  unfold putLeaf
  by_cases hh : has (l.map S59.f0) k = true
  · rw [if_pos hh]
    have e : l.set (rank (l.map S59.f0) k) ⟨k, x⟩ = insL l k x := by
      have hlt := has_lt hh
      rw [List.length_map] at hlt
      rw [List.set_eq_take_append_cons_drop, if_pos hlt]
      unfold insL keysOf
      rw [if_pos hh]
    rw [e]
    unfold keysOf at hlen
    rw [if_pos hh] at hlen
    exact ⟨WF_zero.2 ⟨hs, hr, by omega, by omega⟩, rfl⟩
  · rw [if_neg hh]
    have e : l.take (rank (l.map S59.f0) k) ++ ⟨k, x⟩ :: l.drop (rank (l.map S59.f0) k) = insL l k x := by
      unfold insL keysOf
      rw [if_neg hh, Nat.add_zero]
    rw [e]
    unfold keysOf at hlen
    rw [if_neg hh] at hlen
    exact halveLeafT_WF ho hs hr (by omega) (by omega)

theorem WK_append {α : Type} {P : Option ByteArray → Option ByteArray → α → Prop} {k : ByteArray} {ks2 : List ByteArray} {cs2 : List α} {hi : Option ByteArray} : ∀ {ks1 : List ByteArray} {cs1 : List α} {lo : Option ByteArray}, cs1.length = ks1.length + 1 →
    (WK P lo hi (ks1 ++ k :: ks2) (cs1 ++ cs2) ↔ WK P lo (some k) ks1 cs1 ∧ WK P (some k) hi ks2 cs2)
  | [], [c], lo, _ => Iff.rfl
  | [], [], _, h => by simp at h
  | [], _ :: _ :: _, _, h => by simp at h
  | _ :: _, [], _, h => by simp at h
  | k1 :: ks1, c :: cs1, lo, h => by
    show (P lo (some k1) c ∧ WK P (some k1) hi (ks1 ++ k :: ks2) (cs1 ++ cs2)) ↔ (P lo (some k1) c ∧ WK P (some k1) (some k) ks1 cs1) ∧ _
    rw [WK_append (by simpa using h)]
    exact and_assoc.symm

theorem halveT_WF {order d m : Nat} (ho : 3 ≤ order) {lo hi : Option ByteArray} {ks : List ByteArray} {cs : List (T d)} (h : WK (WF order d (minOf order d)) lo hi ks cs) (hm : m ≤ cs.length) (hl : cs.length ≤ 2 * order) :
    PutWF order (d + 1) m lo hi (cs.flatMap (toList d)) (halveT order ks cs) := by
  unfold halveT
  have hlen := WK_length h
  by_cases hc : cs.length ≤ order
  · rw [if_pos hc]
    exact ⟨WF_succ.2 ⟨h, hc, hm⟩, rfl⟩
  · rw [if_neg hc]
    have h2 : cs.length / 2 - 1 < ks.length := by omega
    have e1 : ks = ks.take (cs.length / 2 - 1) ++ ks[cs.length / 2 - 1] :: ks.drop (cs.length / 2) := by
      conv => lhs; rw [← List.take_append_drop (cs.length / 2 - 1) ks, List.drop_eq_getElem_cons h2]
      rw [show cs.length / 2 - 1 + 1 = cs.length / 2 by omega]
    have e2 : cs = cs.take (cs.length / 2) ++ cs.drop (cs.length / 2) := (List.take_append_drop _ _).symm
    have e3 : ks.getD (cs.length / 2 - 1) ByteArray.empty = ks[cs.length / 2 - 1] := by rw [List.getD_eq_getElem?_getD, List.getElem?_eq_getElem h2]; rfl
    have h3 : WK (WF order d (minOf order d)) lo hi (ks.take (cs.length / 2 - 1) ++ ks[cs.length / 2 - 1] :: ks.drop (cs.length / 2)) (cs.take (cs.length / 2) ++ cs.drop (cs.length / 2)) := by rw [← e1, ← e2]; exact h
    rw [WK_append (by rw [List.length_take, List.length_take]; omega)] at h3
    rw [e3]
    refine ⟨WF_succ.2 ⟨h3.1, ?_, ?_⟩, WF_succ.2 ⟨h3.2, ?_, ?_⟩, ?_⟩
    · rw [List.length_take]; omega
    · rw [List.length_take]; show (order + 1) / 2 ≤ _; omega
    · rw [List.length_drop]; omega
    · rw [List.length_drop]; show (order + 1) / 2 ≤ _; omega
    · rw [toList_inner, toList_inner, ← List.flatMap_append, List.take_append_drop]

theorem put_WF {order : Nat} (ho : 3 ≤ order) {k : ByteArray} {x : Int} : ∀ {d m : Nat} {lo hi : Option ByteArray} {t : T d}, WF order d m lo hi t → inR lo hi k → PutWF order d m lo hi (insL (toList d t) k x) (putT order d t k x)
  | 0, m, lo, hi, l, h, hk => putLeaf_WF ho h hk
  | d + 1, m, lo, hi, (ks, cs), h, hk => by
    obtain ⟨h1, h2, h3⟩ := WF_succ.1 h
    obtain ⟨f1, f2, f3, f4⟩ := WK_facts (WF_P ho d) h1
    obtain ⟨c, l, u, e1, e2, e3, e4, e5, e6, e7⟩ := focus (WF_P ho d) h1 hk
    rw [← kx_eq f1] at e1 e4 e5 e6 e7
    obtain ⟨hlt, rfl⟩ := List.getElem?_eq_some_iff.1 e1
    rw [putT_inner order k x hlt]
    have ih := put_WF (x := x) ho e2 e3
    have hL : insL (toList (d + 1) ((ks, cs) : List ByteArray × List (T d))) k x = (cs.take (kidIx ks k)).flatMap (toList d) ++ insL (toList d cs[kidIx ks k]) k x ++ (cs.drop (kidIx ks k + 1)).flatMap (toList d) := by
      rw [← insL_mid x e4 e5, toList_inner]
      congr 1
      conv => lhs; rw [← List.take_append_drop (kidIx ks k) cs, List.drop_eq_getElem_cons hlt, List.flatMap_append, List.flatMap_cons]
      rw [List.append_assoc]
    rw [hL]
    generalize insL (toList d cs[kidIx ks k]) k x = L at *
    generalize putT order d cs[kidIx ks k] k x = s at *
    have hset : ∀ c', (cs.set (kidIx ks k) c').flatMap (toList d) = (cs.take (kidIx ks k)).flatMap (toList d) ++ toList d c' ++ (cs.drop (kidIx ks k + 1)).flatMap (toList d) := fun c' => by
      rw [List.set_eq_take_append_cons_drop, if_pos hlt, List.flatMap_append, List.flatMap_cons, List.append_assoc]
    obtain ⟨s1, _ | ⟨mid, s2⟩⟩ := s
    · obtain ⟨i1, i2⟩ := ih
      refine ⟨WF_succ.2 ⟨e6 _ i1, by rw [List.length_set]; exact h2, by rw [List.length_set]; exact h3⟩, ?_⟩
      rw [toList_inner, hset, i2]
    · obtain ⟨i1, i2, i3⟩ := ih
      show PutWF order (d + 1) m lo hi _ (halveT order (ks.take (kidIx ks k) ++ mid :: ks.drop (kidIx ks k)) ((cs.set (kidIx ks k) s1).take (kidIx ks k + 1) ++ s2 :: (cs.set (kidIx ks k) s1).drop (kidIx ks k + 1)))
      have hw := halveT_WF (m := m) ho (e7 s1 mid s2 i1 i2) (by simp only [List.length_append, List.length_take, List.length_cons, List.length_drop, List.length_set]; omega) (by simp only [List.length_append, List.length_take, List.length_cons, List.length_drop, List.length_set]; omega)
      have eL : ((cs.set (kidIx ks k) s1).take (kidIx ks k + 1) ++ s2 :: (cs.set (kidIx ks k) s1).drop (kidIx ks k + 1)).flatMap (toList d) = (cs.take (kidIx ks k)).flatMap (toList d) ++ L ++ (cs.drop (kidIx ks k + 1)).flatMap (toList d) := by
        rw [List.set_eq_take_append_cons_drop, if_pos hlt]
        have ht : (cs.take (kidIx ks k)).length = kidIx ks k := by rw [List.length_take]; omega
        rw [List.take_append, List.drop_append, ht]
        simp only [List.take_take, List.drop_take, Nat.add_sub_cancel_left, List.take_succ_cons, List.take_zero, List.drop_succ_cons, List.drop_zero]
        rw [show min (kidIx ks k + 1) (kidIx ks k) = kidIx ks k by omega, show kidIx ks k - (kidIx ks k + 1) = 0 by omega, List.take_zero, List.nil_append, ← i3]
        simp [List.flatMap_append, List.flatMap_cons, List.append_assoc]
      rw [eL] at hw
      exact hw

/-- A tree as a whole. -/
def WFA (order : Nat) (t : AT) : Prop := WF order t.1 (if t.1 = 0 then 0 else 2) none none t.2
def listA (t : AT) : List S59 := toList t.1 t.2

theorem putRoot_WF {order : Nat} (ho : 3 ≤ order) {t : AT} (h : WFA order t) (k : ByteArray) (x : Int) : WFA order (putRoot order t k x) ∧ listA (putRoot order t k x) = insL (listA t) k x := by
  obtain ⟨d, t⟩ := t
  have h1 : WF order d (if d = 0 then 0 else 2) none none t := h
  have h := put_WF (k := k) (x := x) ho h1 ⟨(fun l e => by cases e), (fun u e => by cases e)⟩
  unfold putRoot WFA listA
  dsimp only at h ⊢
  generalize putT order d t k x = s at *
  obtain ⟨s1, _ | ⟨mid, s2⟩⟩ := s
  · exact h
  · obtain ⟨h1, h2, h3⟩ := h
    refine ⟨?_, ?_⟩
    · show WF order (d + 1) 2 none none (([mid], [s1, s2]) : List ByteArray × List (T d))
      exact WF_succ.2 ⟨⟨h1, h2⟩, by show 2 ≤ order; omega, Nat.le_refl _⟩
    · show toList (d + 1) (([mid], [s1, s2]) : List ByteArray × List (T d)) = _
      rw [toList_inner]
      simpa using h3

theorem Shape_of_WF {order : Nat} (ho : 3 ≤ order) (ho2 : order ≤ 64) : ∀ {d m : Nat} {lo hi : Option ByteArray} {t : T d}, WF order d m lo hi t → Shape d t
  | 0, m, lo, hi, l, h => by
    obtain ⟨h1, _, h3, _⟩ := WF_zero.1 h
    exact ⟨h1, by have : l.length + 1 ≤ order := h3; omega⟩
  | d + 1, m, lo, hi, (ks, cs), h => by
    obtain ⟨h1, h2, h3⟩ := WF_succ.1 h
    obtain ⟨f1, _, _, _⟩ := WK_facts (WF_P ho d) h1
    have := WK_length h1
    refine ⟨f1, this, by show ks.length ≤ 900; omega, fun c hc => ?_⟩
    obtain ⟨l, u, hw⟩ := WK_mem h1 c hc
    exact Shape_of_WF ho ho2 hw

end Go.Proofs.Ytjabcdfbncglnaa
namespace Go.Proofs.Ytjabcdfbncglnaa
open Go.RowKit Go.Proofs.YtjabcdfbncglnaaW.PrintWords Go.Proofs.YtjabcdfbncglnaaW.PrintLast Go.Proofs.YtjabcdfbncglnaaW.PrintMore
open PTreeRanks (S59 k59 z59)
set_option linter.unusedVariables false
set_option linter.unusedSimpArgs false

/-- The strings of a tree's nodes are no longer than B. -/
def KeysLe (B : Nat) : (d : Nat) → T d → Prop
  | 0, l => ∀ x ∈ (show List S59 from l), x.f0.size ≤ B
  | d + 1, t => (∀ k ∈ t.1, k.size ≤ B) ∧ ∀ c ∈ t.2, KeysLe B d c

def KeysS (B : Nat) (d : Nat) (s : T d × Option (ByteArray × T d)) : Prop := KeysLe B d s.1 ∧ ∀ m r, s.2 = some (m, r) → m.size ≤ B ∧ KeysLe B d r

theorem KeysLe_succ {B d : Nat} {ks : List ByteArray} {cs : List (T d)} : KeysLe B (d + 1) ((ks, cs) : List ByteArray × List (T d)) ↔ (∀ k ∈ ks, k.size ≤ B) ∧ ∀ c ∈ cs, KeysLe B d c := Iff.rfl

theorem getD_size {B : Nat} {ks : List ByteArray} (h : ∀ k ∈ ks, k.size ≤ B) (i : Nat) : (ks.getD i ByteArray.empty).size ≤ B := by
  rw [List.getD_eq_getElem?_getD]
  cases e : ks[i]? with
  | none => exact Nat.zero_le _
  | some k => exact h k (List.mem_of_getElem? e)
theorem getD_size59 {B : Nat} {l : List S59} (h : ∀ x ∈ l, x.f0.size ≤ B) (i : Nat) : (l.getD i z59).f0.size ≤ B := by
  rw [List.getD_eq_getElem?_getD]
  cases e : l[i]? with
  | none => exact Nat.zero_le _
  | some k => exact h k (List.mem_of_getElem? e)

theorem halveT_keys {B d order : Nat} {ks : List ByteArray} {cs : List (T d)} (h1 : ∀ k ∈ ks, k.size ≤ B) (h2 : ∀ c ∈ cs, KeysLe B d c) : KeysS B (d + 1) (halveT order ks cs) := by
  unfold halveT
  split
  · exact ⟨⟨h1, h2⟩, fun m r e => by cases e⟩
  · refine ⟨⟨fun k hk => h1 k (List.mem_of_mem_take hk), fun c hc => h2 c (List.mem_of_mem_take hc)⟩, ?_⟩
    intro m r e
    cases e
    exact ⟨getD_size h1 _, fun k hk => h1 k (List.mem_of_mem_drop hk), fun c hc => h2 c (List.mem_of_mem_drop hc)⟩
theorem halveLeafT_keys {B order : Nat} {l : List S59} (h : ∀ x ∈ l, x.f0.size ≤ B) : KeysS B 0 (halveLeafT order l) := by
  unfold halveLeafT
  split
  · exact ⟨h, fun m r e => by cases e⟩
  · refine ⟨fun x hx => h x (List.mem_of_mem_take hx), ?_⟩
    intro m r e
    cases e
    exact ⟨getD_size59 h _, fun x hx => h x (List.mem_of_mem_drop hx)⟩
theorem mem_mid {α : Type} {l : List α} {i j : Nat} {a x : α} (h : x ∈ l.take i ++ a :: l.drop j) : x = a ∨ x ∈ l := by
  rcases List.mem_append.1 h with h | h
  · exact .inr (List.mem_of_mem_take h)
  · rcases List.mem_cons.1 h with h | h
    · exact .inl h
    · exact .inr (List.mem_of_mem_drop h)
theorem putT_keys {B order : Nat} {k : ByteArray} (x : Int) (hk : k.size ≤ B) : ∀ (d : Nat) (t : T d), KeysLe B d t → KeysS B d (putT order d t k x)
  | 0, l, h => by
    obtain ⟨l, rfl⟩ : ∃ l' : List S59, l' = l := ⟨l, rfl⟩
    have h : ∀ x ∈ l, x.f0.size ≤ B := h
    show KeysS B 0 (putLeaf order l k x)
    unfold putLeaf
    split
    · refine ⟨?_, fun m r e => by cases e⟩
      intro y hy
      rcases List.mem_or_eq_of_mem_set hy with hy | rfl
      · exact h y hy
      · exact hk
    · refine halveLeafT_keys fun y hy => ?_
      rcases mem_mid hy with rfl | hy
      · exact hk
      · exact h y hy
  | d + 1, t, h => by
    obtain ⟨ks, cs, rfl⟩ : ∃ (ks : List ByteArray) (cs : List (T d)), ((ks, cs) : List ByteArray × List (T d)) = t := ⟨t.1, t.2, rfl⟩
    obtain ⟨h1, h2⟩ := KeysLe_succ.1 h
    show KeysS B (d + 1) (match cs[kidIx ks k]? with | none => (((ks, cs) : List ByteArray × List (T d)), none) | some c => putUp order ks cs (kidIx ks k) (putT order d c k x))
    cases e : cs[kidIx ks k]? with
    | none => exact ⟨h, fun m r e => by cases e⟩
    | some c =>
      have ih := putT_keys (order := order) x hk d c (h2 c (List.mem_of_getElem? e))
      show KeysS B (d + 1) (putUp order ks cs (kidIx ks k) (putT order d c k x))
      generalize putT order d c k x = s at *
      obtain ⟨l, o⟩ := s
      have hset : ∀ c' ∈ cs.set (kidIx ks k) l, KeysLe B d c' := by
        intro c' hc'
        rcases List.mem_or_eq_of_mem_set hc' with hc' | rfl
        · exact h2 c' hc'
        · exact ih.1
      cases o with
      | none => exact ⟨⟨h1, hset⟩, fun m r e => by cases e⟩
      | some mr =>
        obtain ⟨m, r⟩ := mr
        obtain ⟨hm, hr⟩ := ih.2 m r rfl
        refine halveT_keys (fun y hy => ?_) (fun y hy => ?_)
        · rcases mem_mid hy with rfl | hy
          · exact hm
          · exact h1 y hy
        · rcases mem_mid hy with rfl | hy
          · exact hr
          · exact hset y hy
theorem putRoot_keys {B order : Nat} {k : ByteArray} (x : Int) (hk : k.size ≤ B) {t : AT} (h : KeysLe B t.1 t.2) : KeysLe B (putRoot order t k x).1 (putRoot order t k x).2 := by
  have h := putT_keys (order := order) x hk t.1 t.2 h
  unfold putRoot
  generalize putT order t.1 t.2 k x = s at *
  obtain ⟨l, o⟩ := s
  cases o with
  | none => exact h.1
  | some mr =>
    obtain ⟨m, r⟩ := mr
    obtain ⟨hm, hr⟩ := h.2 m r rfl
    refine ⟨fun y hy => by rw [List.mem_singleton.1 hy]; exact hm, fun y hy => ?_⟩
    rcases List.mem_cons.1 hy with rfl | hy
    · exact h.1
    · rw [List.mem_singleton.1 hy]; exact hr
end Go.Proofs.Ytjabcdfbncglnaa
namespace Go.Proofs.Ytjabcdfbncglnaa
open Go.RowKit Go.Proofs.YtjabcdfbncglnaaW.PrintWords Go.Proofs.YtjabcdfbncglnaaW.PrintLast Go.Proofs.YtjabcdfbncglnaaW.PrintMore
open PTreeRanks (S59 k59 z59)
set_option linter.unusedVariables false
set_option linter.unusedSimpArgs false

theorem rank_mid {A M C : List S59} {k : ByteArray} (hA : ∀ y ∈ A, blt y.f0 k = true) (hC : ∀ y ∈ C, blt k y.f0 = true) : rank (keysOf (A ++ M ++ C)) k = A.length + rank (keysOf M) k := by
  have r1 : rank (keysOf A) k = A.length := by
    rw [← keysOf_length]
    exact rank_all fun y hy => by obtain ⟨z, hz, rfl⟩ := List.mem_map.1 hy; exact hA z hz
  have r2 : rank (keysOf C) k = 0 := rank_zero fun y hy => by obtain ⟨z, hz, rfl⟩ := List.mem_map.1 hy; exact blt_asymm (hC z hz)
  rw [keysOf_append, keysOf_append, rank_append, rank_append, r1, r2, Nat.add_zero]
theorem has_mid {A M C : List S59} {k : ByteArray} (hA : ∀ y ∈ A, blt y.f0 k = true) (hC : ∀ y ∈ C, blt k y.f0 = true) : has (keysOf (A ++ M ++ C)) k = has (keysOf M) k := by
  unfold has
  rw [rank_mid hA hC, keysOf_append, keysOf_append, List.append_assoc, List.getElem?_append_right (by rw [keysOf_length]; omega), keysOf_length, Nat.add_sub_cancel_left]
  have hr := rank_le (keysOf M) k
  rcases Nat.lt_or_ge (rank (keysOf M) k) (keysOf M).length with h | h
  · rw [List.getElem?_append_left h]
  · rw [List.getElem?_append_right h, List.getElem?_eq_none h]
    have e : rank (keysOf M) k - (keysOf M).length = 0 := by omega
    rw [e]
    cases hC0 : C with
    | nil => rfl
    | cons c C' =>
      have := hC c (by rw [hC0]; exact List.mem_cons_self)
      have hne : c.f0 ≠ k := fun e => by rw [e, blt_irrefl] at this; cases this
      have h1 : decide (some c.f0 = some k) = false := decide_eq_false (by intro e; exact hne (by injection e))
      have h2 : decide ((none : Option ByteArray) = some k) = false := rfl
      exact h1.trans h2.symm
theorem getV_mid {A M C : List S59} {k : ByteArray} (hA : ∀ y ∈ A, blt y.f0 k = true) (hC : ∀ y ∈ C, blt k y.f0 = true) : getV (A ++ M ++ C) k = getV M k := by
  have h1 : has ((A ++ M ++ C).map S59.f0) k = has (M.map S59.f0) k := has_mid hA hC
  have h2 : rank ((A ++ M ++ C).map S59.f0) k = A.length + rank (M.map S59.f0) k := rank_mid hA hC
  unfold getV
  rw [h1, h2]
  by_cases h : has (M.map S59.f0) k = true
  · rw [if_pos h, if_pos h]
    have hl := has_lt h
    rw [List.length_map] at hl
    rw [List.getD_eq_getElem?_getD, List.getD_eq_getElem?_getD, List.append_assoc, List.getElem?_append_right (by omega), Nat.add_sub_cancel_left, List.getElem?_append_left hl]
  · rw [if_neg h, if_neg h]

/-- Where a key stands in a tree. -/
theorem tree_focus {order : Nat} (ho : 3 ≤ order) {k : ByteArray} : ∀ {d m : Nat} {lo hi : Option ByteArray} {t : T d}, WF order d m lo hi t → inR lo hi k →
    ∃ A C, toList d t = A ++ leafOf d t k ++ C ∧ (∀ y ∈ A, blt y.f0 k = true) ∧ (∀ y ∈ C, blt k y.f0 = true) ∧ rankT d t k = A.length + rank (keysOf (leafOf d t k)) k
  | 0, m, lo, hi, l, h, hk => ⟨[], [], by rw [List.append_nil]; rfl, (fun y hy => by cases hy), (fun y hy => by cases hy), by rw [List.length_nil, Nat.zero_add]; rfl⟩
  | d + 1, m, lo, hi, (ks, cs), h, hk => by
    obtain ⟨h1, h2, h3⟩ := WF_succ.1 h
    obtain ⟨f1, f2, f3, f4⟩ := WK_facts (WF_P ho d) h1
    obtain ⟨c, l, u, e1, e2, e3, e4, e5, e6, e7⟩ := focus (WF_P ho d) h1 hk
    rw [← kx_eq f1] at e1 e4 e5 e6 e7
    obtain ⟨hlt, rfl⟩ := List.getElem?_eq_some_iff.1 e1
    obtain ⟨A, C, i1, i2, i3, i4⟩ := tree_focus ho e2 e3
    refine ⟨(cs.take (kidIx ks k)).flatMap (toList d) ++ A, C ++ (cs.drop (kidIx ks k + 1)).flatMap (toList d), ?_, ?_, ?_, ?_⟩
    · rw [leafOf_inner k hlt, toList_inner]
      conv => lhs; rw [← List.take_append_drop (kidIx ks k) cs, List.drop_eq_getElem_cons hlt, List.flatMap_append, List.flatMap_cons, i1]
      simp only [List.append_assoc]
    · intro y hy
      rcases List.mem_append.1 hy with hy | hy
      · exact e4 y hy
      · exact i2 y hy
    · intro y hy
      rcases List.mem_append.1 hy with hy | hy
      · exact i3 y hy
      · exact e5 y hy
    · rw [leafOf_inner k hlt, rankT_inner k hlt, i4, List.length_append, List.length_flatMap]
      have : (List.map (fun c => (toList d c).length) (cs.take (kidIx ks k))).sum = sizes (cs.take (kidIx ks k)) := by
        unfold sizes
        congr 1
        exact List.map_congr_left fun c _ => (size_eq d c).symm
      rw [this]
      omega

theorem inR_none (k : ByteArray) : inR none none k := ⟨(fun l e => by cases e), (fun u e => by cases e)⟩
theorem rank_A {order : Nat} (ho : 3 ≤ order) {t : AT} (h : WFA order t) (k : ByteArray) : rankT t.1 t.2 k = rank (keysOf (listA t)) k := by
  obtain ⟨A, C, h1, h2, h3, h4⟩ := tree_focus ho h (inR_none k)
  unfold listA
  rw [h1, h4, rank_mid h2 h3]
theorem has_A {order : Nat} (ho : 3 ≤ order) {t : AT} (h : WFA order t) (k : ByteArray) : has ((leafOf t.1 t.2 k).map S59.f0) k = has (keysOf (listA t)) k := by
  obtain ⟨A, C, h1, h2, h3, h4⟩ := tree_focus ho h (inR_none k)
  unfold listA
  rw [h1, has_mid h2 h3]
  rfl
theorem get_A {order : Nat} (ho : 3 ≤ order) {t : AT} (h : WFA order t) (k : ByteArray) : getV (leafOf t.1 t.2 k) k = getV (listA t) k := by
  obtain ⟨A, C, h1, h2, h3, h4⟩ := tree_focus ho h (inR_none k)
  unfold listA
  rw [h1, getV_mid h2 h3]
theorem listA_sorted {order : Nat} (ho : 3 ≤ order) {t : AT} (h : WFA order t) : SortedK (keysOf (listA t)) := WF_sorted ho h
theorem sizeA_eq (t : AT) : sizeA t = (listA t).length := size_eq t.1 t.2

/-- The element with a number, asked for by its key. -/
theorem at_rank {l : List S59} (hs : SortedK (keysOf l)) (i : Nat) (h : i < l.length) : rank (keysOf l) l[i].f0 = i ∧ has (keysOf l) l[i].f0 = true ∧ getV l l[i].f0 = l[i].f1 := by
  have hi : i < (keysOf l).length := by rw [keysOf_length]; exact h
  have hk : (keysOf l)[i] = l[i].f0 := List.getElem_map (l := l) S59.f0
  have hr : rank (keysOf l) l[i].f0 = i := by
    have h1 := rank_lt (k := l[i].f0) hs i hi
    rw [hk, blt_irrefl] at h1
    have h1 : ¬ i < rank (keysOf l) l[i].f0 := fun e => by have := h1.2 e; cases this
    have hle := rank_le (keysOf l) l[i].f0
    rcases Nat.lt_or_ge (rank (keysOf l) l[i].f0) i with h2 | h2
    · have h3 := rank_lt (k := l[i].f0) hs (rank (keysOf l) l[i].f0) (by omega)
      have h4 := List.pairwise_iff_getElem.1 hs (rank (keysOf l) l[i].f0) i (by omega) hi h2
      rw [hk] at h4
      have := h3.1 h4
      omega
    · omega
  have hh : has (keysOf l) l[i].f0 = true := (has_iff hs).2 (by rw [← hk]; exact List.getElem_mem _)
  refine ⟨hr, hh, ?_⟩
  unfold getV
  have hh' : has (l.map S59.f0) l[i].f0 = true := hh
  have hr' : rank (l.map S59.f0) l[i].f0 = i := hr
  rw [if_pos hh', hr', List.getD_eq_getElem?_getD, List.getElem?_eq_getElem h]
  rfl

end Go.Proofs.Ytjabcdfbncglnaa
namespace Go.Proofs.Ytjabcdfbncglnaa
open Go.RowKit Go.Proofs.YtjabcdfbncglnaaW.PrintWords Go.Proofs.YtjabcdfbncglnaaW.PrintLast Go.Proofs.YtjabcdfbncglnaaW.PrintMore
open PTreeRanks (S59 k59 z59)
set_option linter.unusedVariables false
set_option linter.unusedSimpArgs false

/-- A list without a key. -/
def delL (l : List S59) (k : ByteArray) : List S59 := if has (keysOf l) k then l.eraseIdx (rank (keysOf l) k) else l

/-- Two neighbours as one, or as two. -/
def joinedT (order : Nat) : (d : Nat) → T d → ByteArray → T d → T d × Option (ByteArray × T d)
  | 0, a, _, b => halveLeafT order ((show List S59 from a) ++ (show List S59 from b))
  | d + 1, a, mid, b => halveT (d := d) order (a.1 ++ [mid] ++ b.1) (a.2 ++ b.2)

def fewT (order : Nat) : (d : Nat) → T d → Bool
  | 0, l => decide (List.length (α := S59) l < order / 2)
  | _ + 1, t => decide (t.2.length < (order + 1) / 2)

/-- What becomes of an inner node whose kids i and i + 1 were joined to s. -/
def mendS {d : Nat} (ks : List ByteArray) (cs : List (T d)) (i : Nat) (s : T d × Option (ByteArray × T d)) : List ByteArray × List (T d) :=
  match s.2 with
  | none => (ks.eraseIdx i, (cs.set i s.1).eraseIdx (i + 1))
  | some (m, r) => (ks.set i m, (cs.set i s.1).set (i + 1) r)
def mendT {d : Nat} (order : Nat) (ks : List ByteArray) (cs : List (T d)) (i : Nat) : List ByteArray × List (T d) :=
  match cs[i]?, ks[i]?, cs[i + 1]? with
  | some a, some m, some b => mendS ks cs i (joinedT order d a m b)
  | _, _, _ => (ks, cs)

def dropT (order : Nat) : (d : Nat) → T d → ByteArray → Option (T d)
  | 0, l, k => if has (keysOf l) k then some (List.eraseIdx (α := S59) l (rank (keysOf l) k)) else none
  | d + 1, t, k => match t.2[kidIx t.1 k]? with
    | none => none
    | some c => match dropT order d c k with
      | none => none
      | some c' => some (if fewT order d c' then mendT order t.1 (t.2.set (kidIx t.1 k) c') (max (kidIx t.1 k) 1 - 1) else (t.1, t.2.set (kidIx t.1 k) c'))

/-- A root with one kid is that kid. -/
def shrinkT : (d : Nat) → T d → AT
  | 0, l => ⟨0, l⟩
  | d + 1, t => match t.2 with
    | [c] => ⟨d, c⟩
    | _ => ⟨d + 1, t⟩
def deleteRoot (order : Nat) (t : AT) (k : ByteArray) : AT := (dropT order t.1 t.2 k).elim t (shrinkT t.1)

theorem delL_mid {A M C : List S59} {k : ByteArray} (hA : ∀ y ∈ A, blt y.f0 k = true) (hC : ∀ y ∈ C, blt k y.f0 = true) : delL (A ++ M ++ C) k = A ++ delL M k ++ C := by
  have r3 := rank_mid (M := M) hA hC
  have r4 := has_mid (M := M) hA hC
  unfold delL
  rw [r3, r4]
  by_cases h : has (keysOf M) k = true
  · rw [if_pos h, if_pos h]
    have hl := has_lt h
    rw [keysOf_length] at hl
    rw [List.append_assoc, List.eraseIdx_append_of_length_le (by omega), Nat.add_sub_cancel_left, List.eraseIdx_append_of_lt_length hl, List.append_assoc]
  · rw [if_neg h, if_neg h]

/-- The bounds of kid number i. -/
def loAt (lo : Option ByteArray) (ks : List ByteArray) (i : Nat) : Option ByteArray := if i = 0 then lo else ks[i - 1]?
def hiAt (hi : Option ByteArray) (ks : List ByteArray) (i : Nat) : Option ByteArray := if i < ks.length then ks[i]? else hi
theorem loAt_cons {lo : Option ByteArray} {k : ByteArray} {ks : List ByteArray} (i : Nat) : loAt lo (k :: ks) (i + 1) = loAt (some k) ks i := by
  unfold loAt
  rw [if_neg (Nat.succ_ne_zero i)]
  cases i with
  | zero => rfl
  | succ i => rfl
theorem hiAt_cons {hi : Option ByteArray} {k : ByteArray} {ks : List ByteArray} (i : Nat) : hiAt hi (k :: ks) (i + 1) = hiAt hi ks i := by
  unfold hiAt
  rw [List.length_cons]
  by_cases h : i < ks.length
  · rw [if_pos h, if_pos (by omega)]; rfl
  · rw [if_neg h, if_neg (by omega)]

section
variable {α : Type} {P : Option ByteArray → Option ByteArray → α → Prop} {toL : α → List S59}

theorem focusD (hP : ∀ lo hi c, P lo hi c → (∀ x ∈ toL c, inR lo hi x.f0) ∧ toL c ≠ []) {hi : Option ByteArray} {k : ByteArray} : ∀ {ks : List ByteArray} {cs : List α} {lo : Option ByteArray}, WK P lo hi ks cs → inR lo hi k →
    ∃ c, cs[kx ks k]? = some c ∧ P (loAt lo ks (kx ks k)) (hiAt hi ks (kx ks k)) c ∧ inR (loAt lo ks (kx ks k)) (hiAt hi ks (kx ks k)) k ∧ (∀ x ∈ (cs.take (kx ks k)).flatMap toL, blt x.f0 k = true) ∧ (∀ x ∈ (cs.drop (kx ks k + 1)).flatMap toL, blt k x.f0 = true) ∧
      (∀ c', P (loAt lo ks (kx ks k)) (hiAt hi ks (kx ks k)) c' → WK P lo hi ks (cs.set (kx ks k) c'))
  | [], [c], lo, h, hk => ⟨c, rfl, h, hk, by simp [kx], by simp [kx], fun c' h' => h'⟩
  | [], [], _, h, _ => h.elim
  | [], _ :: _ :: _, _, h, _ => h.elim
  | _ :: _, [], _, h, _ => h.elim
  | k0 :: ks, c :: cs, lo, ⟨h1, h2⟩, hk => by
    unfold kx
    by_cases hb : blt k k0 = true
    · rw [if_pos hb]
      refine ⟨c, rfl, h1, ⟨hk.1, fun u e => by cases e; exact hb⟩, by simp, ?_, fun c' h' => ⟨h', h2⟩⟩
      intro x hx
      obtain ⟨c', hc', hx⟩ := List.mem_flatMap.1 hx
      have := (WK_facts hP h2).2.2.1 c' (by simpa using hc') x hx
      exact blt_le hb (this.1 k0 rfl)
    · rw [if_neg hb]
      have hb' := Bool.eq_false_iff.2 hb
      obtain ⟨c', e1, e2, e3, e4, e5, e6⟩ := focusD hP h2 ⟨fun l e => by cases e; exact hb', hk.2⟩
      rw [loAt_cons, hiAt_cons]
      refine ⟨c', by simpa using e1, e2, e3, ?_, by simpa using e5, fun c'' h' => ⟨h1, e6 c'' h'⟩⟩
      intro x hx
      rw [List.take_succ_cons, List.flatMap_cons] at hx
      rcases List.mem_append.1 hx with hx | hx
      · exact blt_le (((hP _ _ _ h1).1 x hx).2 k0 rfl) hb'
      · exact e4 x hx

/-- Two neighbours, and what may stand in their place. -/
theorem mend_focus {hi : Option ByteArray} : ∀ {ks : List ByteArray} {cs : List α} {lo : Option ByteArray} (j : Nat), WK P lo hi ks cs → j + 1 < cs.length →
    ∃ a m b, cs[j]? = some a ∧ ks[j]? = some m ∧ cs[j + 1]? = some b ∧ P (loAt lo ks j) (some m) a ∧ P (some m) (hiAt hi ks (j + 1)) b ∧
      (∀ c', P (loAt lo ks j) (hiAt hi ks (j + 1)) c' → WK P lo hi (ks.eraseIdx j) ((cs.set j c').eraseIdx (j + 1))) ∧
      (∀ a' m' b', P (loAt lo ks j) (some m') a' → P (some m') (hiAt hi ks (j + 1)) b' → WK P lo hi (ks.set j m') ((cs.set j a').set (j + 1) b')) ∧
      ∃ X Y, X = (cs.take j).flatMap toL ∧ Y = (cs.drop (j + 2)).flatMap toL ∧ (∀ c', ((cs.set j c').eraseIdx (j + 1)).flatMap toL = X ++ toL c' ++ Y) ∧ (∀ a' b', ((cs.set j a').set (j + 1) b').flatMap toL = X ++ (toL a' ++ toL b') ++ Y)
  | [], [], _, _, h, _ => h.elim
  | [], [_], _, j, _, hj => by simp at hj
  | [], _ :: _ :: _, _, _, h, _ => h.elim
  | _ :: _, [], _, _, h, _ => h.elim
  | _ :: [], [_], _, _, h, _ => h.2.elim
  | _ :: _ :: _, [_], _, _, h, _ => h.2.elim
  | [m], [a, b], lo, 0, ⟨h1, h2⟩, _ => ⟨a, m, b, rfl, rfl, rfl, h1, h2, fun c' h' => h', fun a' m' b' e1 e2 => ⟨e1, e2⟩, _, _, rfl, rfl, fun c' => by simp, fun a' b' => by simp⟩
  | [m], a :: b :: c :: cs, lo, 0, ⟨h1, h2⟩, _ => h2.elim
  | m :: k2 :: ks, a :: b :: cs, lo, 0, ⟨h1, h2, h3⟩, _ => ⟨a, m, b, rfl, rfl, rfl, h1, h2, fun c' h' => ⟨h', h3⟩, fun a' m' b' e1 e2 => ⟨e1, e2, h3⟩, _, _, rfl, rfl, fun c' => by simp, fun a' b' => by simp⟩
  | m0 :: ks, c0 :: c1 :: cs, lo, j + 1, ⟨h1, h2⟩, hj => by
    obtain ⟨a, m, b, e1, e2, e3, p1, p2, q1, q2, X, Y, eX, eY, f1, f2⟩ := mend_focus j h2 (by simpa using hj)
    rw [loAt_cons, hiAt_cons]
    refine ⟨a, m, b, by simpa using e1, by simpa using e2, by simpa using e3, p1, p2, fun c' h' => ⟨h1, q1 c' h'⟩, fun a' m' b' g1 g2 => ⟨h1, q2 a' m' b' g1 g2⟩, toL c0 ++ X, Y, ?_, by simpa using eY, fun c' => ?_, fun a' b' => ?_⟩
    · rw [List.take_succ_cons, List.flatMap_cons, eX]
    · rw [List.set_cons_succ, List.eraseIdx_cons_succ, List.flatMap_cons, f1]
      simp
    · rw [List.set_cons_succ, List.set_cons_succ, List.flatMap_cons, f2]
      simp
end

def cntT : (d : Nat) → T d → Nat
  | 0, l => List.length (α := S59) l
  | _ + 1, t => t.2.length
theorem fewT_eq (order : Nat) : ∀ (d : Nat) (t : T d), fewT order d t = decide (cntT d t < minOf order d)
  | 0, _ => rfl
  | _ + 1, _ => rfl
theorem WF_cnt {order : Nat} : ∀ {d m : Nat} {lo hi : Option ByteArray} {t : T d}, WF order d m lo hi t → m ≤ cntT d t
  | 0, _, _, _, _, h => h.2.2.2
  | _ + 1, _, _, _, _, h => h.2.2
theorem WF_raise {order : Nat} : ∀ {d m m' : Nat} {lo hi : Option ByteArray} {t : T d}, WF order d m lo hi t → m' ≤ cntT d t → WF order d m' lo hi t
  | 0, _, _, _, _, _, h, h' => ⟨h.1, h.2.1, h.2.2.1, h'⟩
  | _ + 1, _, _, _, _, _, h, h' => ⟨h.1, h.2.1, h'⟩

theorem joinedT_WF {order : Nat} (ho : 3 ≤ order) : ∀ {d m ma mb : Nat} {lo hi : Option ByteArray} {a b : T d} {mid : ByteArray}, WF order d ma lo (some mid) a → WF order d mb (some mid) hi b → ltB lo (some mid) → ltB (some mid) hi → m ≤ cntT d a + cntT d b →
    PutWF order d m lo hi (toList d a ++ toList d b) (joinedT order d a mid b)
  | 0, m, ma, mb, lo, hi, a, b, mid, ha, hb, h1, h2, hm => by
    obtain ⟨a, rfl⟩ : ∃ a' : List S59, a' = a := ⟨a, rfl⟩
    obtain ⟨b, rfl⟩ : ∃ b' : List S59, b' = b := ⟨b, rfl⟩
    obtain ⟨a1, a2, a3, a4⟩ := WF_zero.1 ha
    obtain ⟨b1, b2, b3, b4⟩ := WF_zero.1 hb
    have hm : m ≤ a.length + b.length := hm
    refine halveLeafT_WF ho ?_ ?_ (by rw [List.length_append]; exact hm) (show (a ++ b).length ≤ 2 * order - 2 by rw [List.length_append]; omega)
    · rw [keysOf_append]
      exact List.pairwise_append.2 ⟨a1, b1, fun x hx y hy => blt_le ((a2 x hx).2 mid rfl) ((b2 y hy).1 mid rfl)⟩
    · intro x hx
      rw [keysOf_append] at hx
      rcases List.mem_append.1 hx with hx | hx
      · exact ⟨(a2 x hx).1, fun u e => blt_trans ((a2 x hx).2 mid rfl) (h2 mid u rfl e)⟩
      · refine ⟨fun l e => ?_, (b2 x hx).2⟩
        have h3 := (b2 x hx).1 mid rfl
        cases h5 : blt x l with
        | false => rfl
        | true => rw [blt_trans h5 (h1 l mid e rfl)] at h3; cases h3
  | d + 1, m, ma, mb, lo, hi, a, b, mid, ha, hb, h1, h2, hm => by
    obtain ⟨ks1, cs1⟩ := a
    obtain ⟨ks2, cs2⟩ := b
    obtain ⟨a1, a2, a3⟩ := WF_succ.1 ha
    obtain ⟨b1, b2, b3⟩ := WF_succ.1 hb
    have hm : m ≤ cs1.length + cs2.length := hm
    have e : ks1 ++ [mid] ++ ks2 = ks1 ++ mid :: ks2 := by simp
    show PutWF order (d + 1) m lo hi (cs1.flatMap (toList d) ++ cs2.flatMap (toList d)) (halveT order (ks1 ++ [mid] ++ ks2) (cs1 ++ cs2))
    rw [e, ← List.flatMap_append]
    exact halveT_WF ho ((WK_append (WK_length a1)).2 ⟨a1, b1⟩) (by rw [List.length_append]; exact hm) (by rw [List.length_append]; omega)

theorem set_get {α : Type} {l : List α} {i : Nat} {a : α} (h : l[i]? = some a) : l.set i a = l := by
  obtain ⟨hi, rfl⟩ := List.getElem?_eq_some_iff.1 h
  exact List.set_getElem_self hi

theorem dropT_WF {order : Nat} (ho : 3 ≤ order) {k : ByteArray} : ∀ {d m : Nat} {lo hi : Option ByteArray} {t : T d}, WF order d m lo hi t → (0 < d → 2 ≤ m) → inR lo hi k →
    (dropT order d t k = none → has (keysOf (toList d t)) k = false) ∧ ∀ t', dropT order d t k = some t' → has (keysOf (toList d t)) k = true ∧ WF order d (m - 1) lo hi t' ∧ toList d t' = delL (toList d t) k
  | 0, m, lo, hi, l, h, _, hk => by
    obtain ⟨l, rfl⟩ : ∃ l' : List S59, l' = l := ⟨l, rfl⟩
    obtain ⟨w1, w2, w3, w4⟩ := WF_zero.1 h
    show ((if has (keysOf l) k then some (l.eraseIdx (rank (keysOf l) k)) else none) = none → has (keysOf l) k = false) ∧ ∀ t' : List S59, (if has (keysOf l) k then some (l.eraseIdx (rank (keysOf l) k)) else none) = some t' → has (keysOf l) k = true ∧ WF order 0 (m - 1) lo hi t' ∧ t' = delL l k
    by_cases hh : has (keysOf l) k = true
    · rw [if_pos hh]
      refine ⟨(fun e => by cases e), fun t' e => ?_⟩
      cases e
      have hl := has_lt hh
      rw [keysOf_length] at hl
      have hsub : (keysOf (l.eraseIdx (rank (keysOf l) k))).Sublist (keysOf l) := (List.eraseIdx_sublist l _).map S59.f0
      refine ⟨hh, WF_zero.2 ⟨List.Pairwise.sublist hsub w1, fun x hx => w2 x (hsub.subset hx), ?_, ?_⟩, ?_⟩
      · rw [List.length_eraseIdx_of_lt hl]; omega
      · rw [List.length_eraseIdx_of_lt hl]; omega
      · unfold delL; rw [if_pos hh]
    · rw [if_neg hh]
      exact ⟨fun _ => Bool.eq_false_iff.2 hh, fun t' e => by cases e⟩
  | d + 1, m, lo, hi, t, h, hm2, hk => by
    obtain ⟨ks, cs, rfl⟩ : ∃ (ks : List ByteArray) (cs : List (T d)), ((ks, cs) : List ByteArray × List (T d)) = t := ⟨t.1, t.2, rfl⟩
    obtain ⟨h1, h2, h3⟩ := WF_succ.1 h
    have hm2 := hm2 (Nat.succ_pos d)
    obtain ⟨f1, f2, f3, f4⟩ := WK_facts (WF_P ho d) h1
    obtain ⟨c, e1, e2, e3, e4, e5, e6⟩ := focusD (WF_P ho d) h1 hk
    rw [← kx_eq f1] at e1 e2 e3 e4 e5 e6
    obtain ⟨i, hi0⟩ : ∃ i, i = kidIx ks k := ⟨_, rfl⟩
    have hdrop : dropT order (d + 1) ((ks, cs) : List ByteArray × List (T d)) k = match cs[kidIx ks k]? with
      | none => none
      | some c => match dropT order d c k with
        | none => none
        | some c' => some (if fewT order d c' then mendT order ks (cs.set (kidIx ks k) c') (max (kidIx ks k) 1 - 1) else (ks, cs.set (kidIx ks k) c')) := rfl
    rw [hdrop]
    rw [← hi0] at e1 e2 e3 e4 e5 e6 ⊢
    obtain ⟨hlt, ec⟩ := List.getElem?_eq_some_iff.1 e1
    have hTL : toList (d + 1) ((ks, cs) : List ByteArray × List (T d)) = (cs.take i).flatMap (toList d) ++ toList d c ++ (cs.drop (i + 1)).flatMap (toList d) := by
      rw [toList_inner]
      conv => lhs; rw [← List.take_append_drop i cs, List.drop_eq_getElem_cons hlt, List.flatMap_append, List.flatMap_cons, ec]
      rw [List.append_assoc]
    have hset : ∀ c', (cs.set i c').flatMap (toList d) = (cs.take i).flatMap (toList d) ++ toList d c' ++ (cs.drop (i + 1)).flatMap (toList d) := fun c' => by
      rw [List.set_eq_take_append_cons_drop, if_pos hlt, List.flatMap_append, List.flatMap_cons, List.append_assoc]
    have hmin : 1 ≤ minOf order d ∧ (0 < d → 2 ≤ minOf order d) := by
      cases d with
      | zero => exact ⟨by show 1 ≤ order / 2; omega, fun h => absurd h (Nat.lt_irrefl 0)⟩
      | succ d => exact ⟨by show 1 ≤ (order + 1) / 2; omega, fun _ => by show 2 ≤ (order + 1) / 2; omega⟩
    obtain ⟨ih1, ih2⟩ := dropT_WF ho (k := k) e2 hmin.2 e3
    rw [hTL, has_mid e4 e5, e1]
    show ((match dropT order d c k with | none => none | some c' => some (if fewT order d c' then mendT order ks (cs.set i c') (max i 1 - 1) else (ks, cs.set i c'))) = none → _) ∧ ∀ t' : List ByteArray × List (T d), (match dropT order d c k with | none => none | some c' => some (if fewT order d c' then mendT order ks (cs.set i c') (max i 1 - 1) else (ks, cs.set i c'))) = some t' → _
    cases hd : dropT order d c k with
    | none => exact ⟨fun _ => ih1 hd, fun t' e => by cases e⟩
    | some c' =>
      obtain ⟨g1, g2, g3⟩ := ih2 c' hd
      refine ⟨(fun e => by cases e), fun t' e => ?_⟩
      cases e
      refine ⟨g1, ?_⟩
      rw [delL_mid e4 e5, ← g3, ← hset]
      rw [fewT_eq]
      by_cases hf : cntT d c' < minOf order d
      · rw [if_pos (decide_eq_true hf)]
        have hlen := WK_length h1
        obtain ⟨j, hj⟩ : ∃ j, j = max i 1 - 1 := ⟨_, rfl⟩
        rw [← hj]
        have hij : i = j ∨ i = j + 1 := by omega
        have hjl : j + 1 < cs.length := by omega
        obtain ⟨a, mid, b, x1, x2, x3, p1, p2, q1, q2, X, Y, eX, eY, y1, y2⟩ := mend_focus (toL := toList d) j h1 hjl
        have l1 := P_lt (WF_P ho d) p1
        have l2 := P_lt (WF_P ho d) p2
        obtain ⟨a', b', z1, z2, z3, z4, z5, z6⟩ : ∃ a' b', (cs.set i c')[j]? = some a' ∧ (cs.set i c')[j + 1]? = some b' ∧ (∃ ma, WF order d ma (loAt lo ks j) (some mid) a') ∧ (∃ mb, WF order d mb (some mid) (hiAt hi ks (j + 1)) b') ∧ minOf order d ≤ cntT d a' + cntT d b' ∧ (cs.set j a').set (j + 1) b' = cs.set i c' := by
          rcases hij with rfl | rfl
          · have ehi : hiAt hi ks i = some mid := by unfold hiAt; rw [if_pos (by omega), x2]
            rw [ehi] at g2
            refine ⟨c', b, by rw [List.getElem?_set_self (by omega)], by rw [List.getElem?_set_ne (by omega)]; exact x3, ⟨_, g2⟩, ⟨_, p2⟩, ?_, set_get (by rw [List.getElem?_set_ne (by omega)]; exact x3)⟩
            have := WF_cnt g2
            have := WF_cnt p2
            omega
          · have elo : loAt lo ks (j + 1) = some mid := by unfold loAt; rw [if_neg (Nat.succ_ne_zero j)]; exact x2
            rw [elo] at g2
            refine ⟨a, c', by rw [List.getElem?_set_ne (by omega)]; exact x1, by rw [List.getElem?_set_self (by omega)], ⟨_, p1⟩, ⟨_, g2⟩, ?_, ?_⟩
            · have := WF_cnt g2
              have := WF_cnt p1
              omega
            · rw [set_get x1]
        obtain ⟨ma, z3⟩ := z3
        obtain ⟨mb, z4⟩ := z4
        have hJ := joinedT_WF ho z3 z4 l1 l2 z5
        have hmend : mendT order ks (cs.set i c') j = mendS ks (cs.set i c') j (joinedT order d a' mid b') := by
          unfold mendT
          rw [z1, z2, x2]
        rw [hmend]
        generalize joinedT order d a' mid b' = s at *
        have hflat : (cs.set i c').flatMap (toList d) = X ++ (toList d a' ++ toList d b') ++ Y := by rw [← z6]; exact y2 a' b'
        rw [hflat]
        obtain ⟨l, _ | ⟨m', r⟩⟩ := s
        · obtain ⟨w1, w2⟩ := hJ
          have ee : ((cs.set i c').set j l).eraseIdx (j + 1) = (cs.set j l).eraseIdx (j + 1) := by
            rw [← z6, List.set_comm _ _ (by omega), List.set_set]
            rw [List.eraseIdx_set_eq]
          show WF order (d + 1) (m - 1) lo hi ((ks.eraseIdx j, ((cs.set i c').set j l).eraseIdx (j + 1)) : List ByteArray × List (T d)) ∧ (((cs.set i c').set j l).eraseIdx (j + 1)).flatMap (toList d) = _
          rw [ee]
          refine ⟨WF_succ.2 ⟨q1 l w1, ?_, ?_⟩, by rw [y1, w2]⟩
          · rw [List.length_eraseIdx_of_lt (by rw [List.length_set]; omega), List.length_set]; omega
          · rw [List.length_eraseIdx_of_lt (by rw [List.length_set]; omega), List.length_set]; omega
        · obtain ⟨w1, w2, w3⟩ := hJ
          have ee : ((cs.set i c').set j l).set (j + 1) r = (cs.set j l).set (j + 1) r := by
            rw [← z6, List.set_comm b' l (by omega), List.set_set, List.set_set]
          show WF order (d + 1) (m - 1) lo hi ((ks.set j m', ((cs.set i c').set j l).set (j + 1) r) : List ByteArray × List (T d)) ∧ (((cs.set i c').set j l).set (j + 1) r).flatMap (toList d) = _
          rw [ee]
          refine ⟨WF_succ.2 ⟨q2 l m' r w1 w2, ?_, ?_⟩, by rw [y2, w3]⟩
          · rw [List.length_set, List.length_set]; exact h2
          · rw [List.length_set, List.length_set]; omega
      · rw [if_neg (by rw [decide_eq_false hf]; decide)]
        have g4 := WF_raise g2 (Nat.le_of_not_lt hf)
        exact ⟨WF_succ.2 ⟨e6 c' g4, by rw [List.length_set]; exact h2, by rw [List.length_set]; omega⟩, rfl⟩

theorem delL_length (l : List S59) (k : ByteArray) : (delL l k).length = l.length - if has (keysOf l) k then 1 else 0 := by
  unfold delL
  by_cases h : has (keysOf l) k = true
  · rw [if_pos h, if_pos h]
    have := has_lt h
    rw [keysOf_length] at this
    exact List.length_eraseIdx_of_lt this
  · rw [if_neg h, if_neg h]; rfl
theorem delL_sorted {l : List S59} (hs : SortedK (keysOf l)) (k : ByteArray) : SortedK (keysOf (delL l k)) := by
  unfold delL
  split
  · exact List.Pairwise.sublist ((List.eraseIdx_sublist l _).map S59.f0) hs
  · exact hs

/-- A tree without a key. -/
theorem deleteRoot_WF {order : Nat} (ho : 3 ≤ order) {t : AT} (h : WFA order t) (k : ByteArray) : WFA order (deleteRoot order t k) ∧ listA (deleteRoot order t k) = delL (listA t) k := by
  obtain ⟨d, t⟩ := t
  have hm : 0 < d → 2 ≤ (if (⟨d, t⟩ : AT).1 = 0 then 0 else 2) := fun hd => by
    show 2 ≤ (if d = 0 then 0 else 2)
    rw [if_neg (by omega)]
    exact Nat.le_refl _
  obtain ⟨h1, h2⟩ := dropT_WF ho (k := k) h hm (inR_none k)
  show WFA order ((dropT order d t k).elim ⟨d, t⟩ (shrinkT d)) ∧ listA ((dropT order d t k).elim ⟨d, t⟩ (shrinkT d)) = _
  cases hd : dropT order d t k with
  | none =>
    have hh := h1 hd
    refine ⟨h, ?_⟩
    show listA ⟨d, t⟩ = delL (listA ⟨d, t⟩) k
    unfold delL
    rw [if_neg (by rw [show has (keysOf (listA ⟨d, t⟩)) k = false from hh]; decide)]
  | some t' =>
    obtain ⟨g1, g2, g3⟩ := h2 t' hd
    cases d with
    | zero => exact ⟨WF_raise g2 (Nat.zero_le _), g3⟩
    | succ d =>
      obtain ⟨ks, cs, rfl⟩ : ∃ (ks : List ByteArray) (cs : List (T d)), ((ks, cs) : List ByteArray × List (T d)) = t' := ⟨t'.1, t'.2, rfl⟩
      obtain ⟨w1, w2, w3⟩ := WF_succ.1 g2
      have w3 : 1 ≤ cs.length := w3
      rcases cs with _ | ⟨c, _ | ⟨c2, cs⟩⟩
      · exact absurd w3 (by simp)
      · have hk0 : ks = [] := by have := WK_length w1; exact List.eq_nil_of_length_eq_zero (by simpa using this.symm)
        subst hk0
        refine ⟨?_, ?_⟩
        · show WF order d (if d = 0 then 0 else 2) none none c
          have w1 : WF order d (minOf order d) none none c := w1
          refine WF_raise w1 (Nat.le_trans ?_ (WF_cnt w1))
          cases d with
          | zero => exact Nat.zero_le _
          | succ d => show 2 ≤ (order + 1) / 2; omega
        · show toList d c = _
          have g3 : [c].flatMap (toList d) = delL (toList (d + 1) t) k := g3
          rw [← show [c].flatMap (toList d) = toList d c by simp]
          exact g3
      · refine ⟨?_, g3⟩
        show WF order (d + 1) (if d + 1 = 0 then 0 else 2) none none ((ks, c :: c2 :: cs) : List ByteArray × List (T d))
        exact WF_succ.2 ⟨w1, w2, by rw [if_neg (Nat.succ_ne_zero d)]; simp⟩

theorem joinedT_keys {B order : Nat} : ∀ {d : Nat} {a b : T d} {mid : ByteArray}, KeysLe B d a → KeysLe B d b → mid.size ≤ B → KeysS B d (joinedT order d a mid b)
  | 0, a, b, mid, ha, hb, hm => by
    obtain ⟨a, rfl⟩ : ∃ a' : List S59, a' = a := ⟨a, rfl⟩
    obtain ⟨b, rfl⟩ : ∃ b' : List S59, b' = b := ⟨b, rfl⟩
    refine halveLeafT_keys (l := a ++ b) fun x hx => ?_
    rcases List.mem_append.1 hx with hx | hx
    · exact ha x hx
    · exact hb x hx
  | d + 1, a, b, mid, ha, hb, hm => by
    refine halveT_keys (fun x hx => ?_) (fun x hx => ?_)
    · rcases List.mem_append.1 hx with hx | hx
      · rcases List.mem_append.1 hx with hx | hx
        · exact ha.1 x hx
        · rw [List.mem_singleton.1 hx]; exact hm
      · exact hb.1 x hx
    · rcases List.mem_append.1 hx with hx | hx
      · exact ha.2 x hx
      · exact hb.2 x hx
theorem dropT_keys {B order : Nat} {k : ByteArray} : ∀ (d : Nat) (t t' : T d), KeysLe B d t → dropT order d t k = some t' → KeysLe B d t'
  | 0, l, l', h, e => by
    obtain ⟨l, rfl⟩ : ∃ a' : List S59, a' = l := ⟨l, rfl⟩
    have h : ∀ x ∈ l, x.f0.size ≤ B := h
    have e : (if has (keysOf l) k then some (l.eraseIdx (rank (keysOf l) k)) else none) = some l' := e
    split at e
    · cases e
      exact fun x hx => h x ((List.eraseIdx_sublist l _).subset hx)
    · cases e
  | d + 1, t, t', h, e => by
    obtain ⟨ks, cs, rfl⟩ : ∃ (ks : List ByteArray) (cs : List (T d)), ((ks, cs) : List ByteArray × List (T d)) = t := ⟨t.1, t.2, rfl⟩
    obtain ⟨h1, h2⟩ := KeysLe_succ.1 h
    have e : (match cs[kidIx ks k]? with
      | none => none
      | some c => match dropT order d c k with
        | none => none
        | some c' => some (if fewT order d c' then mendT order ks (cs.set (kidIx ks k) c') (max (kidIx ks k) 1 - 1) else (ks, cs.set (kidIx ks k) c'))) = some t' := e
    cases hc : cs[kidIx ks k]? with
    | none => rw [hc] at e; cases e
    | some c =>
      rw [hc] at e
      have e : (match dropT order d c k with
        | none => none
        | some c' => some (if fewT order d c' then mendT order ks (cs.set (kidIx ks k) c') (max (kidIx ks k) 1 - 1) else (ks, cs.set (kidIx ks k) c'))) = some t' := e
      cases hd : dropT order d c k with
      | none => rw [hd] at e; cases e
      | some c' =>
        rw [hd] at e
        have ih := dropT_keys d c c' (h2 c (List.mem_of_getElem? hc)) hd
        have hset : ∀ x ∈ cs.set (kidIx ks k) c', KeysLe B d x := fun x hx => by
          rcases List.mem_or_eq_of_mem_set hx with hx | rfl
          · exact h2 x hx
          · exact ih
        have e : some (if fewT order d c' then mendT order ks (cs.set (kidIx ks k) c') (max (kidIx ks k) 1 - 1) else (ks, cs.set (kidIx ks k) c')) = some t' := e
        cases e
        generalize cs.set (kidIx ks k) c' = cs' at *
        split
        · generalize max (kidIx ks k) 1 - 1 = j
          unfold mendT
          cases hj1 : cs'[j]? with
          | none => exact ⟨h1, hset⟩
          | some a =>
            cases hj2 : ks[j]? with
            | none => exact ⟨h1, hset⟩
            | some m =>
              cases hj3 : cs'[j + 1]? with
              | none => exact ⟨h1, hset⟩
              | some b =>
                have hJ := joinedT_keys (order := order) (hset a (List.mem_of_getElem? hj1)) (hset b (List.mem_of_getElem? hj3)) (h1 m (List.mem_of_getElem? hj2))
                show KeysLe B (d + 1) (mendS ks cs' j (joinedT order d a m b))
                generalize joinedT order d a m b = s at *
                obtain ⟨l, _ | ⟨m', r⟩⟩ := s
                · refine ⟨fun x hx => h1 x ((List.eraseIdx_sublist ks _).subset hx), fun x hx => ?_⟩
                  have hx := (List.eraseIdx_sublist (cs'.set j l) _).subset hx
                  rcases List.mem_or_eq_of_mem_set hx with hx | rfl
                  · exact hset x hx
                  · exact hJ.1
                · obtain ⟨g1, g2⟩ := hJ.2 m' r rfl
                  refine ⟨fun x hx => ?_, fun x hx => ?_⟩
                  · rcases List.mem_or_eq_of_mem_set hx with hx | rfl
                    · exact h1 x hx
                    · exact g1
                  · rcases List.mem_or_eq_of_mem_set hx with hx | rfl
                    · rcases List.mem_or_eq_of_mem_set hx with hx | rfl
                      · exact hset x hx
                      · exact hJ.1
                    · exact g2
        · exact ⟨h1, hset⟩
theorem deleteRoot_keys {B order : Nat} {k : ByteArray} {t : AT} (h : KeysLe B t.1 t.2) : KeysLe B (deleteRoot order t k).1 (deleteRoot order t k).2 := by
  obtain ⟨d, t⟩ := t
  have hk := dropT_keys (B := B) (order := order) (k := k) d t
  show KeysLe B ((dropT order d t k).elim (⟨d, t⟩ : AT) (shrinkT d)).1 ((dropT order d t k).elim (⟨d, t⟩ : AT) (shrinkT d)).2
  cases hd : dropT order d t k with
  | none => exact h
  | some t' =>
    have h' := hk t' h hd
    cases d with
    | zero => exact h'
    | succ d =>
      obtain ⟨ks, cs, rfl⟩ : ∃ (ks : List ByteArray) (cs : List (T d)), ((ks, cs) : List ByteArray × List (T d)) = t' := ⟨t'.1, t'.2, rfl⟩
      rcases cs with _ | ⟨c, _ | ⟨c2, cs⟩⟩
      · exact h'
      · exact h'.2 c (by simp)
      · exact h'
end Go.Proofs.Ytjabcdfbncglnaa
namespace Go.Proofs.Ytjabcdfbncglnaa
open Go.RowKit Go.Proofs.YtjabcdfbncglnaaW.PrintWords Go.Proofs.YtjabcdfbncglnaaW.PrintLast Go.Proofs.YtjabcdfbncglnaaW.PrintMore
open PTreeRanks (S59 k59 z59)
set_option linter.unusedVariables false
set_option linter.unusedSimpArgs false

set_option maxHeartbeats 2000000 in
set_option maxRecDepth 100000 in
theorem few_calls {order bt : Nat} (d : Nat) (t : T d) (v : Value) (w : World) (h0 : w.cell? ⟨bt, 0, none⟩ = some (.int .i64 (order : Nat))) (ho : order ≤ 900) (hK : (NK d).K w t [v]) :
    Calls Try.prog 66 #[.pointer (some ⟨bt, 0, none⟩), v] w fun e w' => e = .returned (.bool (fewT order d t)) ∧ Drawn0 w w' := by
  have m1 := meth_leaf
  have m2 := meth_inner
  have k1 := ta_leaf
  have k2 := ta_leaf_no
  have k3 := ta_inner
  have k4 := ta_inner_no
  cases d with
  | zero =>
    obtain ⟨l, rfl⟩ : ∃ l : List S59, l = t := ⟨t, rfl⟩
    have hca := fun n => count_any (K_drewN hK n)
    obtain ⟨b, A, c, A', c', rfl, x0, x1, hc, hc', hA, hA'⟩ := leaf_open hK
    have HC : Aside0 (∀ n, Calls Try.prog 115 #[.pointer (some ⟨b, 0, none⟩)] (w.drewN n) fun e w' => e = .returned (.int .i64 (l.length : Nat)) ∧ w' = w.drewN n) := ⟨fun n => by
      rcases hca n with ⟨b', e, h⟩ | ⟨b', e, h⟩
      · cases e
        exact h.mono fun _ _ ⟨he, hw⟩ => ⟨he, hw.symm⟩
      · cases e⟩
    have hlm := hA.2.1
    clear hK hA hA' hca x0 x1
    show Calls _ _ _ _ fun e w' => e = .returned (.bool (decide (l.length < order / 2))) ∧ _
    go_enter Try.func66, Try.ntmps66
    go_wp2
    go_quiet ((go_at_call 115; exact Calls.quiet_of_same (HC.out _)))
    go_wp2
    go_ret
    have hdd : decide (((l.length : Nat) : Int) < ((order : Nat) : Int) / 2) = decide (l.length < order / 2) := by
      rw [decide_eq_decide]
      omega
    refine ⟨?_, ⟨⟨nq, rfl⟩⟩⟩
    show Ending.returned (.bool (decide (((l.length : Nat) : Int) < ((order : Nat) : Int) / 2))) = _
    rw [hdd]
  | succ d =>
    obtain ⟨ks, cs, rfl⟩ : ∃ (ks : List ByteArray) (cs : List (T d)), ((ks, cs) : List ByteArray × List (T d)) = t := ⟨t.1, t.2, rfl⟩
    obtain ⟨b, A, c, A', c', rfl, x0, x1, x2, hc, hc', hA, hA'⟩ := inner_open hK
    have hlm := hA'.2.1
    clear hK hA hA'
    show Calls _ _ _ _ fun e w' => e = .returned (.bool (decide (cs.length < (order + 1) / 2))) ∧ _
    go_enter Try.func66, Try.ntmps66
    go_wp2
    go_quiet (fail)
    go_wp2
    go_ret
    have hdd : decide (((cs.length : Nat) : Int) < (((order : Nat) : Int) + 1) / 2) = decide (cs.length < (order + 1) / 2) := by
      rw [decide_eq_decide]
      omega
    refine ⟨?_, ⟨⟨nq, rfl⟩⟩⟩
    show Ending.returned (.bool (decide (((cs.length : Nat) : Int) < (((order : Nat) : Int) + 1) / 2))) = _
    rw [hdd]
end Go.Proofs.Ytjabcdfbncglnaa
namespace Go.Proofs.Ytjabcdfbncglnaa
open Go.RowKit Go.Proofs.YtjabcdfbncglnaaW.PrintWords Go.Proofs.YtjabcdfbncglnaaW.PrintLast Go.Proofs.YtjabcdfbncglnaaW.PrintMore
set_option linter.unusedVariables false
set_option linter.unusedSimpArgs false

theorem zv_str (w : World) : (zeroValue 9).run Try.prog w = .ok (.string ⟨#[]⟩) w := by kernel_rfl

set_option maxHeartbeats 4000000 in
set_option maxRecDepth 100000 in
/-- slices.Delete of element i of a row of one's own. -/
theorem delete_str (base g n cap i : Nat) (cur : List Value) (w : World) (hb : base ≤ g) (hh : w.heap[g]? = some (.cells cur.toArray 9 (0, 0))) (hnc : n ≤ cap) (hcm : cap ≤ 9223372036854775807) (hcl : cur.length = cap) (hi : i < n) (h1 : ∀ u ∈ cur.take n, u.oneCell' = true) :
    Calls Try.prog 77 #[.slice (some ⟨g, 0, none⟩) n cap, .int .i64 i, .int .i64 ((i : Nat) + 1 : Int)] w fun e w' => e = .returned (.slice (some ⟨g, 0, none⟩) (n - 1) cap) ∧ w'.ownsRow base 9 1 (.slice (some ⟨g, 0, none⟩) (n - 1) cap) (n - 1) ((cur.take n).eraseIdx i) ∧ w.grownBy w' (some g) := by
  have t22 := Try.underlying22
  obtain ⟨i0, hi0, hz0, hz1, hz2⟩ := info_parts info9s
  obtain ⟨news, hnews⟩ : ∃ news, news = (cur.take n).drop (i + 1) := ⟨_, rfl⟩
  have hlen : news.length = n - (i + 1) := by rw [hnews, List.length_drop, List.length_take]; omega
  have hcell : ∀ j, w.drew.cell? ⟨g, j, none⟩ = cur[j]? := fun j => by
    have h0 : w.drew.heap[g]? = some (.cells cur.toArray 9 (0, 0)) := hh
    rw [blk_cell h0]
    simp
  obtain ⟨A, hA, hsrc⟩ : ∃ A : Addr, (if cap = i + 1 then some (⟨g, 0, none⟩ : Addr) else some ⟨g, i + 1, none⟩) = some A ∧ Aside0 (∀ t u, news[t]? = some u → w.drew.cell? (A.add t) = some u) := by
    by_cases h : cap = i + 1
    · refine ⟨⟨g, 0, none⟩, by simp [h], ⟨fun t u hu => ?_⟩⟩
      have h0 : news.length = 0 := by rw [hlen]; omega
      rw [List.length_eq_zero_iff.1 h0] at hu
      simp at hu
    · refine ⟨⟨g, i + 1, none⟩, by simp [h], ⟨fun t u hu => ?_⟩⟩
      rw [Addr.add_lit, hcell, ← hu, hnews, List.getElem?_drop, List.getElem?_take]
      have ht := (List.getElem?_eq_some_iff.1 hu).1
      rw [if_pos (by omega)]
  have s1 : Aside0 (news.length = (n - (i + 1)) * 1) := ⟨by rw [Nat.mul_one]; exact hlen⟩
  have s2 : Aside0 (∀ u ∈ news, u.oneCell' = true) := ⟨fun u hu => by
    rw [hnews] at hu
    exact h1 u (List.mem_of_mem_drop hu)⟩
  have s3 : Aside0 (∀ t, t < news.length → (w.drew.cell? ⟨g, 0 + i * 1 + t, none⟩).isSome = true ∧ w.drew.frozen? ⟨g, 0 + i * 1 + t, none⟩ = false) := ⟨fun t ht => by
    have h0 : w.drew.heap[g]? = some (.cells cur.toArray 9 (0, 0)) := hh
    refine ⟨?_, blk_frozen h0 _⟩
    rw [hcell, List.getElem?_eq_getElem (by omega)]
    rfl⟩
  obtain ⟨W1, hW1⟩ : ∃ W1, W1 = w.drew.setCells g (0 + i * 1) news := ⟨_, rfl⟩
  obtain ⟨cur1, k1, k2, k3⟩ := setCells_row news (0 + i * 1) w.drew cur.toArray hh (by rw [List.size_toArray]; omega)
  obtain ⟨r1, r2, r3, r4⟩ := setCells_same g news (0 + i * 1) w.drew
  have hfar : ∀ k', k' ≠ g → (w.drew.setCells g (0 + i * 1) news).heap[k']? = w.heap[k']? := fun k' hk' => setCells_far news _ k' hk'
  rw [← hW1] at k1 r1 r2 r3 r4 hfar
  have hcs1 : cur1.size = cap := by rw [k2, List.size_toArray, hcl]
  have hrep : List.replicate (n - (n - 1)) ((.string ⟨#[]⟩) : Value) = [(.string ⟨#[]⟩)] := by rw [show n - (n - 1) = 1 by omega]; rfl
  have hclr : ∀ ty, (Builtin.clear_ #[22] ty #[.slice (some ⟨g, n - 1, none⟩) (n - (n - 1)) (cap - (n - 1))]).run Try.prog W1 = .ok (.tuple #[]) (W1.setCell ⟨g, n - 1, none⟩ (.string ⟨#[]⟩)) := fun ty => by
    have := Lib.run_clear_slice (P := Try.prog) W1 22 9 ty (.string ⟨#[]⟩) t22 zv_str rfl rfl g (n - 1) (n - (n - 1)) (cap - (n - 1)) (by omega) (fun j hj => by rw [blk_cell k1, Array.getElem?_eq_getElem (by omega)]; rfl) (fun j hj => blk_frozen k1 _)
    rw [hrep] at this
    exact this
  have hfin : Aside0 ((W1.setCell ⟨g, n - 1, none⟩ (.string ⟨#[]⟩)).ownsRow base 9 1 (.slice (some ⟨g, 0, none⟩) (n - 1) cap) (n - 1) ((cur.take n).eraseIdx i) ∧ w.grownBy (W1.setCell ⟨g, n - 1, none⟩ (.string ⟨#[]⟩)) (some g)) := by
    refine ⟨⟨by rw [List.length_eraseIdx_of_lt (by rw [List.length_take]; omega), List.length_take]; omega, .inr ⟨g, cap, _, rfl, hb, blk_set k1 (n - 1) (.string ⟨#[]⟩), by omega, hcm, by rw [Array.size_setIfInBounds]; omega, ?_⟩⟩, ?_⟩
    · rw [Array.toList_setIfInBounds, List.take_set_of_le (by omega), k3, Nat.mul_one, List.eraseIdx_eq_take_drop_succ, ← hnews, List.take_take, Nat.min_eq_left (by omega)]
      simp only [List.toList_toArray, Nat.zero_add, Nat.mul_one]
      rw [List.take_left' (by rw [List.length_append, List.length_take, hlen]; omega)]
    · have hg1 : w.grownBy W1 (some g) := ⟨r1, r2, r3, by rw [r4]; exact Nat.le_refl _, fun k' _ hk' => hfar k' (fun he => hk' (by rw [he]))⟩
      exact gb_set hg1 _ _
  have hW : Aside0 (W1 = w.drew.setCells g (0 + i * 1) news) := ⟨hW1⟩
  have hic : i ≤ cap := by omega
  have hjc : i + 1 ≤ cap := by omega
  have hjn : i + 1 ≤ n := by omega
  have e1 : ((((i : Nat) : Int)) == ((i : Nat) : Int) + 1) = false := by
    apply Bool.eq_false_iff.2
    intro e
    have e : ((i : Nat) : Int) = ((i : Nat) : Int) + 1 := by simpa using e
    omega
  have q0 : ((0 : Int) ≤ ((i : Nat) : Int) + 1) = True := eq_true (by omega)
  have q1 : (((i : Nat) : Int) + 1 ≤ ((n : Nat) : Int)) = True := eq_true (by omega)
  have hn1 : n - 1 ≤ n := by omega
  have en : Aside0 (i + (n - (i + 1)) = n - 1) := ⟨by omega⟩
  clear hW1 hlen hcell hh k1 k2 k3 r1 r2 r3 r4 hfar hcs1 hrep h1 hcl hnews
  go_enter Try.func77, Try.ntmps77
  go_wp2_with fail
  go_region_law (refine step_append_room rfl (.tmp 22) (.tmp 25) 22 rfl 9 i0 1 t22 hi0 hz1 g 0 i cap (by simp [Act.eval, Act.put]) A (n - (i + 1)) (cap - (i + 1)) news (by simp [Act.eval, Act.put]) s1.out hsrc.out s2.out (by omega) s3.out ?_; rw [← hW.out, en.out])
  go_wp2
  go_ret
  exact ⟨rfl, hfin.out.1, hfin.out.2⟩

set_option maxHeartbeats 2000000 in
set_option maxRecDepth 100000 in
/-- a list without one. -/
theorem without_str (A : Option Addr) (n c i : Nat) (vs : List Value) (w : World) (hA : 0 < n → ∃ ad, A = some ad ∧ ∀ j u, vs[j]? = some u → w.cell? (ad.add j) = some u) (hl : vs.length = n) (hbig : n ≤ 8589934592) (h1 : ∀ u ∈ vs, u.oneCell' = true) (hi : i < n) :
    Calls Try.prog 64 #[.slice A n c, .int .i64 i] w fun e w' => ∃ v', e = .returned v' ∧ w'.ownsRow w.heap.size 9 1 v' (n - 1) (vs.eraseIdx i) ∧ Below w.heap.size w w' := by
  have hcl := Aside0.mk (clone_str A n c vs w hA hl hbig h1)
  have H1 := Aside0.mk h1
  clear hA h1 hl
  go_enter Try.func64, Try.ntmps64
  go_wp2_with fail
  refine hcl.out.mono ?_
  rintro e w' ⟨v', rfl, ho, hb⟩
  obtain ⟨g, cap, cur, rfl, hgb, hh, hnc, hcm, hcl2, htk⟩ := row_parts_str ho (by omega)
  have hcap : cap ≤ 9223372036854775807 := by unfold maxLen at hcm; omega
  have HD := Aside0.mk (delete_str w.heap.size g n cap i cur w' hgb hh hnc hcap hcl2 hi (by rw [htk]; exact H1.out))
  rw [htk] at HD
  have HB := Aside0.mk hb
  have HG := Aside0.mk hgb
  clear hb hh ho hcl2 htk hcm hgb
  go_wp2_with fail
  refine HD.out.mono ?_
  rintro e w2 ⟨rfl, ho2, hg2⟩
  have HO2 := Aside0.mk ho2
  have HG2 := Aside0.mk hg2
  clear ho2 hg2
  go_wp2
  go_ret
  exact ⟨_, rfl, HO2.out, HB.out.grown HG2.out HB.out.size (fun k hk => by injection hk with hk; subst hk; exact HG.out)⟩
end Go.Proofs.Ytjabcdfbncglnaa
