/- WHAT IS PROVED: what the reading of an argument gives: the strings of a slice, and that they are no more than the bulk. a tree of nodes in memory has a kind (NK) that obeys the laws of a readable value. the order of strings is a strict total order, and BinarySearch of a rising list answers rank and has. what a node that is read gives: its form, its rows and its kids. find walks to the leaf in which a key would stand. the methods of a node and Len answer the tree's size. Get answers the number at a key in the leaf found. Rank answers how many keys of a tree are below a key. facts on copies and on blocks that grow. slices.Clone of strings makes a row of its own with the same elements. -/
import Derived.Test.YtjabcdfbncglnaaRows
import Derived.Test.YtjabcdfbncglnaaLPTreeRanksx
import Derived.WalkKit
import Derived.ProofKit
import Derived.OpenShut
import Derived.JoinedCond
import Derived.ShutString
import Derived.ChangeOld
import Derived.Below
import Derived.SliceStrings
import Derived.Laws.CopyOwn
import Derived.Deep.RegionLaw
import Derived.Lib.Overlaps
import Derived.Lib.AppendZerosOnto
import Derived.Lib.SliceRun
import Derived.Lib.Walk
import Derived.Lib.AppendZeros
import Derived.Laws.Externs
namespace Go.Proofs.Ytjabcdfbncglnaa.Opn
open Go.ChangeShapes Go.WideShapes Go.ChangeAt Go.RowKit Go.Proofs.YtjabcdfbncglnaaW.PrintWords
open Go.ChangeMaps (open_string shut_string)
set_option linter.unusedVariables false
theorem own : ownKnob Try.prog.godebug = none := by kernel_rfl
theorem laidOut : laidOutB Try.prog = true := by kernel_rfl

theorem bulk_one {H : Type} (d : DataW H) : 1 ≤ Rows.uptoBulk d := by
  cases d with
  | lit l => cases l <;> simp [Rows.uptoBulk]
  | nil => simp [Rows.uptoBulk]
  | ptr d => simp [Rows.uptoBulk]
  | slice elems spare => simp [Rows.uptoBulk]
  | agg parts => simp [Rows.uptoBulk]
  | iface t d => simp [Rows.uptoBulk]
  | map entries => simp [Rows.uptoBulk]
  | held h => simp [Rows.uptoBulk]
theorem bulk_part {H : Type} {d : DataW H} {l : List (DataW H)} (h : d ∈ l) : Rows.uptoBulk d ≤ Rows.uptoBulkAll l := by
  induction l with
  | nil => cases h
  | cons x r ih =>
    simp only [Rows.uptoBulkAll]
    cases List.mem_cons.1 h with
    | inl e => subst e; omega
    | inr e => have := ih e; omega
theorem bulk_length {H : Type} (l : List (DataW H)) : l.length ≤ Rows.uptoBulkAll l := by
  induction l with
  | nil => simp [Rows.uptoBulkAll]
  | cons x r ih => have := bulk_one x; simp only [Rows.uptoBulkAll, List.length_cons]; omega
theorem bulk_slice {H : Type} (elems spare : List (DataW H)) : elems.length + 1 ≤ Rows.uptoBulk (.slice elems spare) := by
  have h1 := bulk_length elems
  simp only [Rows.uptoBulk]
  omega
theorem bulk_bound {H : Type} {l : List (DataW H)} (hk : Rows.uptoSmall H l = true) : Rows.uptoBulkAll l ≤ 1048576 := by
  have h := of_decide_eq_true hk
  exact h

/-- The row of keys, as it is read. -/
theorem keys_read {H : Type} {enc : TypeId × Value → H} {W : World} {base : Nat} {sp : Nat → Bool} {held : Bool} {A : Option Addr} {len cap : Nat} {d : DataW H} {ps : List MemPlace}
    (h : DataW.Trod enc Try.prog W base sp held 22 (.slice A len cap) d ps) : ∃ ks : List ByteArray, len = ks.length ∧ ks.length ≤ cap ∧ Kd.C Kd.string W A ks.length ks ∧ ks.length ≤ Rows.uptoBulk d ∧ ∀ k ∈ ks, k.size ≤ Rows.uptoBulk d := by
  obtain ⟨fuel, hf⟩ := h
  rcases open_strings Try.underlying22 Try.underlying9 (by kernel_rfl) hf with ⟨hcs, hx⟩ | ⟨a, l, c, ss, hcs, _, hl, hm, hz, hx, hcell, _⟩
  · simp [Value.cells] at hcs
    obtain ⟨rfl, rfl, rfl⟩ := hcs
    exact ⟨[], rfl, Nat.le_refl _, Kd.C_nil _ _, Nat.zero_le _, fun k hk => by cases hk⟩
  · simp [Value.cells] at hcs
    obtain ⟨rfl, rfl, rfl⟩ := hcs
    have hle : len ≤ ss.length := by rw [hz]; split <;> omega
    have hlen : (ss.take len).length = len := by rw [List.length_take]; omega
    simp only [Prod.mk.injEq] at hx
    obtain ⟨rfl, _⟩ := hx
    refine ⟨ss.take len, hlen.symm, by omega, ?_, ?_, ?_⟩
    · refine Kd.C_of_reads (d := ByteArray.empty) ⟨rfl, by rw [hlen]; unfold maxLen at hm; omega, fun _ => ⟨a, rfl, fun j hj => ?_⟩⟩
      rw [hcell j (by omega)]
      congr 2
      rw [List.getD_eq_getElem?_getD, List.getD_eq_getElem?_getD, List.getElem?_take]
      rw [if_pos (by omega)]
    · have := bulk_slice (H := H) (strs (ss.take len)) (strs (ss.drop len))
      have e : (strs (H := H) (ss.take len)).length = (ss.take len).length := by simp [strs]
      omega
    · intro k hk
      have h1 : (DataW.lit (.string k.data.toList) : DataW H) ∈ strs (H := H) (ss.take len) := List.mem_map.2 ⟨k, hk, rfl⟩
      have h2 := bulk_part h1
      simp only [Rows.uptoBulk] at h2 ⊢
      have h3 : k.data.toList.length = k.size := by rw [Array.length_toList]; rfl
      omega
end Go.Proofs.Ytjabcdfbncglnaa.Opn
namespace Go.Proofs.Ytjabcdfbncglnaa
open Go.RowKit Go.Proofs.YtjabcdfbncglnaaW.PrintWords Go.Proofs.YtjabcdfbncglnaaW.PrintLast Go.Proofs.YtjabcdfbncglnaaW.PrintMore
open PTreeRanks (S59 k59 z59)
set_option linter.unusedVariables false
set_option linter.unusedSimpArgs false

/-- An interface value of dynamic type 'tn' that holds a pointer to a block of type 'ts' with one struct of kind 'd'. -/
def boxK {α : Type} (tn ts : Nat) (d : Kd α) : Kd α where
  sz := 1
  E := ts :: d.E
  K := fun w x cs => ∃ b ccs, cs = [.iface tn (.pointer (some ⟨b, 0, none⟩))] ∧ d.K w x ccs ∧ ∀ i u, ccs[i]? = some u → w.cell? ⟨b, i, none⟩ = some u
  M := fun w base ok x cs => ∃ b ccs, cs = [.iface tn (.pointer (some ⟨b, 0, none⟩))] ∧ base ≤ b ∧ ok b ∧ w.heap[b]? = some (.cells ccs.toArray ts (0, 0)) ∧ d.M w base ok x ccs
  K_len := by
    rintro w x cs ⟨b, ccs, rfl, _⟩
    rfl
  K_one := by
    rintro w x cs ⟨b, ccs, rfl, _⟩ u hu
    rw [List.mem_singleton.1 hu]
    rfl
  K_below := by
    rintro w w1 x cs hb ⟨b, ccs, rfl, hk, hc⟩
    exact ⟨b, ccs, rfl, d.K_below hb hk, fun i u hu => pw_cell_below hb (hc i u hu)⟩
  K_of_M := by
    rintro w base ok x cs ⟨b, ccs, rfl, _, _, hh, hm⟩
    exact ⟨b, ccs, rfl, d.K_of_M hm, fun i u hu => (blk_cell hh i).trans (by simpa using hu)⟩
  M_mono := by
    rintro w base ok ok' x cs hok ⟨b, ccs, rfl, h1, h2, h3, h4⟩
    exact ⟨b, ccs, rfl, h1, hok _ h2, h3, d.M_mono hok h4⟩
  M_bound := by
    rintro w base ok x cs ⟨b, ccs, rfl, h1, h2, h3, h4⟩
    refine ⟨b, ccs, rfl, h1, ⟨h2, h1, blk_lt h3, ts, List.mem_cons_self, _, h3⟩, h3, d.M_mono ?_ (d.M_bound h4)⟩
    rintro k ⟨a1, a2, a3, q, hq, hc⟩
    exact ⟨a1, a2, a3, q, List.mem_cons_of_mem _ hq, hc⟩
  M_move := by
    rintro w w1 base ok x cs hm ⟨b, ccs, rfl, h1, h2, h3, h4⟩
    exact ⟨b, ccs, rfl, h1, h2, (hm b h2).trans h3, d.M_move hm h4⟩
  M_lower := by
    rintro w base base' ok x cs hb ⟨b, ccs, rfl, h1, h2, h3, h4⟩
    exact ⟨b, ccs, rfl, Nat.le_trans hb h1, h2, h3, d.M_lower hb h4⟩

/-- A tree of depth d (0: a leaf). -/
def T : Nat → Type
  | 0 => List S59
  | d + 1 => List ByteArray × List (T d)

def size : (d : Nat) → T d → Nat
  | 0, t => List.length (α := S59) t
  | d + 1, t => (t.2.map (size d)).sum

/-- A row of elements (type e) that nobody writes any more; its blocks are ok. -/
def FRow {α : Type} (d : Kd α) (e : Nat) (w : World) (base : Nat) (ok : Nat → Prop) (v : Value) (xs : List α) : Prop :=
  (∀ k, v.ownBlock = some k → ok k) ∧ OwnRow (d.M w base ok) e d.sz w base v xs

theorem FRow_mono {α : Type} {d : Kd α} {e : Nat} {w : World} {base : Nat} {ok ok' : Nat → Prop} {v : Value} {xs : List α} (hok : ∀ k, ok k → ok' k) (h : FRow d e w base ok v xs) : FRow d e w base ok' v xs :=
  ⟨fun k hk => hok k (h.1 k hk), h.2.imp_ (fun _ _ hp => d.M_mono hok hp)⟩
theorem FRow_bound {α : Type} {d : Kd α} {e : Nat} {w : World} {base : Nat} {ok : Nat → Prop} {v : Value} {xs : List α} (h : FRow d e w base ok v xs) :
    FRow d e w base (fun k => ok k ∧ base ≤ k ∧ k < w.heap.size ∧ ∃ q, q ∈ e :: d.E ∧ ∃ cells, w.heap[k]? = some (.cells cells q (0, 0))) v xs := by
  obtain ⟨h0, inner, ho, hr⟩ := h
  refine ⟨fun k hk => ?_, inner, ho, hr.imp_ (fun _ _ hp => d.M_mono (fun k hk => ?_) (d.M_bound hp))⟩
  · obtain ⟨cells, hc⟩ := own_typed ho k hk
    exact ⟨h0 k hk, own_base ho k hk, own_lt ho k hk, e, List.mem_cons_self, cells, hc⟩
  · obtain ⟨h1, h3, h4, q, hq, hc⟩ := hk
    exact ⟨h1, h3, h4, q, List.mem_cons_of_mem _ hq, hc⟩
theorem FRow_move {α : Type} {d : Kd α} {e : Nat} {w w1 : World} {base : Nat} {ok : Nat → Prop} {v : Value} {xs : List α} (hm : ∀ k, ok k → w1.heap[k]? = w.heap[k]?) (h : FRow d e w base ok v xs) : FRow d e w1 base ok v xs := by
  obtain ⟨h0, inner, ho, hr⟩ := h
  exact ⟨h0, inner, own_move ho (fun k hk => hm k (h0 k hk)), hr.imp_ (fun _ _ hp => d.M_move hm hp)⟩
theorem FRow_lower {α : Type} {d : Kd α} {e : Nat} {w : World} {base base' : Nat} {ok : Nat → Prop} {v : Value} {xs : List α} (hb : base' ≤ base) (h : FRow d e w base ok v xs) : FRow d e w base' ok v xs := by
  obtain ⟨h0, inner, ho, hr⟩ := h
  exact ⟨h0, inner, own_weaken ho hb, hr.imp_ (fun _ _ hp => d.M_lower hb hp)⟩
theorem FRow_step {α : Type} {d : Kd α} {e : Nat} {w w1 : World} {base : Nat} {ok : Nat → Prop} {v : Value} {xs : List α} (h : FRow d e w base ok v xs) (hm : ∀ k, ok k → k < w.heap.size → w1.heap[k]? = w.heap[k]?) : FRow d e w1 base ok v xs :=
  FRow_mono (fun _ hk => hk.1) (FRow_move (fun k hk => hm k hk.1 hk.2.2.1) (FRow_bound h))
theorem FRow_reads {α : Type} {d : Kd α} {e : Nat} {w : World} {base : Nat} {ok : Nat → Prop} {v : Value} {xs : List α} (h : FRow d e w base ok v xs) : ∃ A c, v = .slice A xs.length c ∧ xs.length ≤ c ∧ d.C w A xs.length xs := by
  obtain ⟨A, c, he, hl, hr⟩ := OwnRow.reads h.2
  exact ⟨A, c, he, hl, hr.imp_ (Below.refl _ _) (fun _ _ hp => d.K_of_M hp)⟩

def sliceF {α : Type} (e : Nat) (d : Kd α) : Kd (List α) where
  sz := 1
  E := e :: d.E
  K := (Kd.slice e d).K
  M := fun w base ok xs cs => ∃ v, cs = [v] ∧ FRow d e w base ok v xs
  K_len := (Kd.slice e d).K_len
  K_one := (Kd.slice e d).K_one
  K_below := (Kd.slice e d).K_below
  K_of_M := by
    rintro w base ok x cs ⟨v, rfl, h⟩
    obtain ⟨A, c, rfl, hl, hr⟩ := FRow_reads h
    exact ⟨A, c, rfl, hl, hr⟩
  M_mono := by
    rintro w base ok ok' x cs hok ⟨v, rfl, h⟩
    exact ⟨v, rfl, FRow_mono hok h⟩
  M_bound := by
    rintro w base ok x cs ⟨v, rfl, h⟩
    exact ⟨v, rfl, FRow_bound h⟩
  M_move := by
    rintro w w1 base ok x cs hm ⟨v, rfl, h⟩
    exact ⟨v, rfl, FRow_move hm h⟩
  M_lower := by
    rintro w base base' ok x cs hb ⟨v, rfl, h⟩
    exact ⟨v, rfl, FRow_lower hb h⟩

def leafK : Kd (List S59) := Kd.iso (Kd.pair (sliceF 9 Kd.string) (sliceF 2 (Kd.int .i64))) (fun l => (l.map S59.f0, l.map S59.f1))
def innerK {α : Type} (d : Kd α) (sz : α → Nat) : Kd (List ByteArray × List α) :=
  Kd.iso (Kd.pair (sliceF 9 Kd.string) (Kd.pair (sliceF 69 d) (Kd.int .i64))) (fun t => (t.1, t.2, ((t.2.map sz).sum : Nat)))

def NK : (d : Nat) → Kd (T d)
  | 0 => boxK 82 85 leafK
  | d + 1 => boxK 78 81 (innerK (NK d) (size d))

theorem NK_sz : ∀ d, (NK d).sz = 1
  | 0 => rfl
  | _ + 1 => rfl

end Go.Proofs.Ytjabcdfbncglnaa
namespace Go.Proofs.Ytjabcdfbncglnaa
open Go.RowKit Go.Proofs.YtjabcdfbncglnaaW.PrintWords Go.Proofs.YtjabcdfbncglnaaW.PrintLast Go.Proofs.YtjabcdfbncglnaaW.PrintMore
open PTreeRanks (S59 k59 z59)
set_option linter.unusedVariables false
set_option linter.unusedSimpArgs false

def blt (a b : ByteArray) : Bool := Op.bytesLess a.toList b.toList

theorem bl_irrefl : ∀ a : List UInt8, Op.bytesLess a a = false
  | [] => rfl
  | a :: x => by simp [Op.bytesLess, bl_irrefl x]

theorem bl_trans : ∀ a b c : List UInt8, Op.bytesLess a b = true → Op.bytesLess b c = true → Op.bytesLess a c = true
  | _, b, [], _, h => by cases b <;> simp [Op.bytesLess] at h
  | [], b, c :: z, _, _ => by simp [Op.bytesLess]
  | a :: x, [], c :: z, h, _ => by simp [Op.bytesLess] at h
  | a :: x, b :: y, c :: z, h, k => by
    simp only [Op.bytesLess, Bool.or_eq_true, Bool.and_eq_true, decide_eq_true_eq, beq_iff_eq] at h k ⊢
    rcases h with h | ⟨rfl, h⟩
    · rcases k with k | ⟨rfl, k⟩
      · exact .inl (UInt8.lt_trans h k)
      · exact .inl h
    · rcases k with k | ⟨rfl, k⟩
      · exact .inl k
      · exact .inr ⟨rfl, bl_trans x y z h k⟩

theorem bl_tri : ∀ a b : List UInt8, Op.bytesLess a b = false → Op.bytesLess b a = false → a = b
  | [], [], _, _ => rfl
  | [], _ :: _, h, _ => by simp [Op.bytesLess] at h
  | _ :: _, [], _, h => by simp [Op.bytesLess] at h
  | a :: x, b :: y, h, k => by
    simp only [Op.bytesLess, Bool.or_eq_false_iff, Bool.and_eq_false_iff, decide_eq_false_iff_not, beq_eq_false_iff_ne] at h k
    have e : a = b := by
      apply UInt8.toNat_inj.1
      have h1 := h.1
      have k1 := k.1
      rw [UInt8.lt_iff_toNat_lt] at h1 k1
      omega
    subst e
    rw [bl_tri x y (by simpa using h.2) (by simpa using k.2)]

theorem toList_inj {a b : ByteArray} (h : a.toList = b.toList) : a = b := by
  rw [ByteArray.toList_eq, ByteArray.toList_eq] at h
  exact ByteArray.ext (Array.toList_inj.1 h)

theorem blt_irrefl (a : ByteArray) : blt a a = false := bl_irrefl _
theorem blt_trans {a b c : ByteArray} (h : blt a b = true) (k : blt b c = true) : blt a c = true := bl_trans _ _ _ h k
theorem blt_tri {a b : ByteArray} (h : blt a b = false) (k : blt b a = false) : a = b := toList_inj (bl_tri _ _ h k)
theorem blt_asymm {a b : ByteArray} (h : blt a b = true) : blt b a = false := by
  cases e : blt b a with
  | false => rfl
  | true => have := blt_trans h e; rw [blt_irrefl] at this; cases this
/-- a < b, not c < b: a < c. -/
theorem blt_le {a b c : ByteArray} (h : blt a b = true) (k : blt c b = false) : blt a c = true := by
  cases e : blt a c with
  | true => rfl
  | false =>
    cases e2 : blt c a with
    | true => rw [blt_trans e2 h] at k; cases k
    | false => obtain rfl := blt_tri e e2; rw [h] at k; cases k
/-- not b < a, b < c: a < c. -/
theorem le_blt {a b c : ByteArray} (h : blt b a = false) (k : blt b c = true) : blt a c = true := by
  cases e : blt a c with
  | true => rfl
  | false =>
    cases e2 : blt c a with
    | true => rw [blt_trans k e2] at h; cases h
    | false => obtain rfl := blt_tri e e2; rw [h] at k; cases k
def SortedK (ks : List ByteArray) : Prop := ks.Pairwise (fun a b => blt a b = true)
def rank (ks : List ByteArray) (k : ByteArray) : Nat := ks.countP (fun x => blt x k)
theorem rank_le (ks : List ByteArray) (k : ByteArray) : rank ks k ≤ ks.length := List.countP_le_length
theorem rank_append (a b : List ByteArray) (k : ByteArray) : rank (a ++ b) k = rank a k + rank b k := List.countP_append
theorem rank_cons_lt {a : ByteArray} {ks : List ByteArray} {k : ByteArray} (h : blt a k = true) : rank (a :: ks) k = rank ks k + 1 := List.countP_cons_of_pos h
theorem rank_zero {ks : List ByteArray} {k : ByteArray} (h : ∀ x ∈ ks, blt x k = false) : rank ks k = 0 := by
  unfold rank
  rw [List.countP_eq_zero]
  intro a ha
  simp [h a ha]
theorem rank_all {ks : List ByteArray} {k : ByteArray} (h : ∀ x ∈ ks, blt x k = true) : rank ks k = ks.length := by
  unfold rank
  rw [List.countP_eq_length]
  exact h
theorem rank_cons_ge {a : ByteArray} {ks : List ByteArray} {k : ByteArray} (hs : SortedK (a :: ks)) (h : blt a k = false) : rank (a :: ks) k = 0 := by
  refine rank_zero fun x hx => ?_
  rcases List.mem_cons.1 hx with rfl | hx
  · exact h
  · cases e : blt x k with
    | false => rfl
    | true => rw [blt_trans ((List.pairwise_cons.1 hs).1 x hx) e] at h; cases h

theorem rank_lt : ∀ {ks : List ByteArray} {k : ByteArray}, SortedK ks → ∀ i (hi : i < ks.length), (blt ks[i] k = true ↔ i < rank ks k)
  | [], _, _, i, hi => by simp at hi
  | a :: ks, k, hs, i, hi => by
    have hs' : SortedK ks := (List.pairwise_cons.1 hs).2
    cases e : blt a k with
    | true =>
      rw [rank_cons_lt e]
      cases i with
      | zero => simp [e]
      | succ i => simpa using rank_lt hs' i (by simpa using hi)
    | false =>
      rw [rank_cons_ge hs e]
      constructor
      · intro h
        have h2 := rank_cons_ge hs e
        unfold rank at h2
        rw [List.countP_eq_zero] at h2
        exact absurd h (by simpa using h2 _ (List.getElem_mem hi))
      · intro h; omega

def has (ks : List ByteArray) (k : ByteArray) : Bool := decide (ks[rank ks k]? = some k)
theorem has_iff {ks : List ByteArray} {k : ByteArray} (hs : SortedK ks) : has ks k = true ↔ k ∈ ks := by
  unfold has
  rw [decide_eq_true_eq]
  constructor
  · exact fun h => List.mem_of_getElem? h
  · intro h
    obtain ⟨i, hi, rfl⟩ := List.getElem_of_mem h
    have h1 : ¬ i < rank ks ks[i] := by rw [← rank_lt hs i hi]; simp [blt_irrefl]
    have h2 : ∀ j, (hj : j < i) → j < rank ks ks[i] := fun j hj => by
      rw [← rank_lt hs j (by omega)]
      exact List.pairwise_iff_getElem.1 hs j i (by omega) hi hj
    have h3 : rank ks ks[i] = i := by
      rcases Nat.lt_or_ge (rank ks ks[i]) i with h | h
      · have := h2 _ h; omega
      · omega
    rw [h3, List.getElem?_eq_getElem hi]
theorem has_lt {ks : List ByteArray} {k : ByteArray} (h : has ks k = true) : rank ks k < ks.length := by
  unfold has at h
  rw [decide_eq_true_eq] at h
  exact (List.getElem?_eq_some_iff.1 h).1

theorem half_eq (i j : Nat) (h : i + j ≤ 2000) : wrap64 ((IntKind.u64.wrap (wrap64 ((i : Int) + j))) / 2) = (((i + j) / 2 : Nat) : Int) := by
  have e1 : wrap64 ((i : Int) + j) = (i : Int) + j := by unfold wrap64; omega
  have e2 : IntKind.u64.wrap ((i : Int) + j) = (i : Int) + j := by
    have : IntKind.u64.wrap ((i : Int) + j) = ((i : Int) + j) % 18446744073709551616 := by rfl
    omega
  rw [e1, e2]
  unfold wrap64
  omega

open PTreeRanks in
theorem less_eq (a b : ByteArray) : cmp_Less_string.f a b = some (blt a b) := by
  unfold cmp_Less_string.f cmp_isNaN_string.f
  simp only [Option.bind_some, bne_self_eq_false, Bool.false_eq_true, if_false]
  rfl

theorem rdOf_eq (ks : List ByteArray) (i : Nat) (h : i < ks.length) : rdOf ByteArray.empty ks (i : Int) = ks[i] := by
  unfold rdOf
  rw [Int.toNat_natCast, List.getD_eq_getElem?_getD, List.getElem?_eq_getElem h]
  rfl

open PTreeRanks in
theorem search_l {ks : List ByteArray} {k : ByteArray} (hs : SortedK ks) (hn : ks.length ≤ 1000) (m : Nat) : ∀ (i j : Nat), j - i ≤ m → i ≤ rank ks k → rank ks k ≤ j → j ≤ ks.length →
    slices_BinarySearch_string_string.l0 (m + 1) ks k (ks.length : Int) (i : Int) (j : Int) = some ((rank ks k : Int), has ks k) := by
  induction m with
  | zero =>
    intro i j hm hi hj hl
    have e : i = rank ks k := by omega
    have e2 : j = rank ks k := by omega
    subst e
    rw [slices_BinarySearch_string_string.l0, if_neg (by omega)]
    by_cases hl2 : rank ks k < ks.length
    · rw [if_pos (by omega), if_pos (by omega), if_pos (by omega), rdOf_eq _ _ hl2]
      unfold slices_isNaN_string.f has
      rw [List.getElem?_eq_getElem hl2]
      by_cases he : ks[rank ks k].toList = k.toList
      · rw [if_pos he]
        simp [toList_inj he]
      · rw [if_neg he]
        have : ¬ ks[rank ks k] = k := fun h => he (by rw [h])
        simp [this]
    · rw [if_neg (by omega)]
      unfold has
      rw [List.getElem?_eq_none (by omega)]
      simp
  | succ m ih =>
    intro i j hm hi hj hl
    by_cases hij : i < j
    · have hh : (i + j) / 2 < ks.length := by omega
      have hr := rank_lt (k := k) hs _ hh
      rw [slices_BinarySearch_string_string.l0, half_eq i j (by omega), if_pos (by omega), if_pos (by omega), if_pos (by omega), rdOf_eq _ _ hh, less_eq, Option.bind_some]
      by_cases hb : blt ks[(i + j) / 2] k = true
      · rw [if_pos hb]
        have e5 : wrap64 ((((i + j) / 2 : Nat) : Int) + 1) = (((i + j) / 2 + 1 : Nat) : Int) := by unfold wrap64; omega
        rw [e5]
        have := hr.1 hb
        exact ih ((i + j) / 2 + 1) j (by omega) (by omega) hj hl
      · rw [if_neg hb]
        have : ¬ (i + j) / 2 < rank ks k := fun h => hb (hr.2 h)
        exact ih i ((i + j) / 2) (by omega) hi (by omega) (by omega)
    · have h0 := ih i j (by omega) hi hj hl
      exact at_rounds (fun q => slices_BinarySearch_string_string.mono_l q _ _ _ _ _) (Nat.le_succ _) h0

theorem search_ok {ks : List ByteArray} (k : ByteArray) (hs : SortedK ks) (hn : ks.length ≤ 1000) :
    ∃ n, PTreeRanks.slices_BinarySearch_string_string.f n ks k = some ((rank ks k : Int), has ks k) :=
  ⟨ks.length + 1, search_l hs hn _ 0 _ (by omega) (Nat.zero_le _) (rank_le _ _) (Nat.le_refl _)⟩

end Go.Proofs.Ytjabcdfbncglnaa
namespace Go.Proofs.Ytjabcdfbncglnaa
open Go.RowKit Go.Proofs.YtjabcdfbncglnaaW.PrintWords Go.Proofs.YtjabcdfbncglnaaW.PrintLast Go.Proofs.YtjabcdfbncglnaaW.PrintMore
open PTreeRanks (S59 k59 z59)
set_option linter.unusedVariables false
set_option linter.unusedSimpArgs false

/-- What every node on the way satisfies. -/
def Shape : (d : Nat) → T d → Prop
  | 0, l => SortedK (List.map S59.f0 l) ∧ List.length (α := S59) l ≤ 900
  | d + 1, t => SortedK t.1 ∧ t.2.length = t.1.length + 1 ∧ t.1.length ≤ 900 ∧ ∀ c ∈ t.2, Shape d c

def kidIx (ks : List ByteArray) (k : ByteArray) : Nat := rank ks k + if has ks k then 1 else 0
theorem kidIx_le (ks : List ByteArray) (k : ByteArray) : kidIx ks k ≤ ks.length := by
  unfold kidIx
  split
  · have := has_lt ‹_›; omega
  · have := rank_le ks k; omega

theorem leaf_open {w : World} {l : List S59} {v : Value} (h : (NK 0).K w l [v]) : ∃ b A c A' c', v = .iface 82 (.pointer (some ⟨b, 0, none⟩)) ∧
    w.cell? ⟨b, 0, none⟩ = some (.slice A l.length c) ∧ w.cell? ⟨b, 1, none⟩ = some (.slice A' l.length c') ∧ l.length ≤ c ∧ l.length ≤ c' ∧
    Kd.C Kd.string w A l.length (l.map S59.f0) ∧ Kd.C (Kd.int .i64) w A' l.length (l.map S59.f1) := by
  obtain ⟨b, ccs, e, ⟨c0, c1, rfl, ⟨A, c, rfl, hc, hA⟩, ⟨A', c', rfl, hc', hA'⟩⟩, hcell⟩ := h
  simp only [List.cons.injEq, and_true] at e
  simp only [List.length_map] at hc hA hc' hA' hcell
  exact ⟨b, A, c, A', c', e, hcell 0 _ rfl, hcell 1 _ rfl, hc, hc', hA, hA'⟩

theorem inner_open {w : World} {d : Nat} {ks : List ByteArray} {cs : List (T d)} {v : Value} (h : (NK (d + 1)).K w ((ks, cs) : List ByteArray × List (T d)) [v]) : ∃ b A c A' c', v = .iface 78 (.pointer (some ⟨b, 0, none⟩)) ∧
    w.cell? ⟨b, 0, none⟩ = some (.slice A ks.length c) ∧ w.cell? ⟨b, 1, none⟩ = some (.slice A' cs.length c') ∧ w.cell? ⟨b, 2, none⟩ = some (.int .i64 ((cs.map (size d)).sum : Nat)) ∧ ks.length ≤ c ∧ cs.length ≤ c' ∧
    Kd.C Kd.string w A ks.length ks ∧ Kd.C (NK d) w A' cs.length cs := by
  obtain ⟨b, ccs, e, ⟨c0, c1, rfl, ⟨A, c, rfl, hc, hA⟩, ⟨c2, c3, rfl, ⟨A', c', rfl, hc', hA'⟩, e3⟩⟩, hcell⟩ := h
  simp only [List.cons.injEq, and_true] at e
  replace e3 : c3 = [.int .i64 ((cs.map (size d)).sum : Nat)] := e3
  subst e3
  exact ⟨b, A, c, A', c', e, hcell 0 _ rfl, hcell 1 _ rfl, hcell 2 _ rfl, hc, hc', hA, hA'⟩

theorem Shape_inner {d : Nat} {ks : List ByteArray} {cs : List (T d)} (h : Shape (d + 1) ((ks, cs) : List ByteArray × List (T d))) :
    SortedK ks ∧ cs.length = ks.length + 1 ∧ ks.length ≤ 900 ∧ ∀ c ∈ cs, Shape d c := h

theorem C_kid {w : World} {d n : Nat} {cs : List (T d)} {A : Option Addr} (h : Kd.C (NK d) w A n cs) (i : Nat) (hi : i < cs.length) :
    ∃ ad v, A = some ad ∧ w.cell? (ad.add i) = some v ∧ (NK d).K w cs[i] [v] := by
  have hn : cs.length = n := h.1
  obtain ⟨ad, c, e, hl, hK, hcell⟩ := Kd.C_get h cs[i] (i : Int) (by omega) (by omega)
  rw [Int.toNat_natCast, List.getD_eq_getElem?_getD, List.getElem?_eq_getElem hi, Option.getD_some] at hK
  rw [NK_sz] at hl
  obtain ⟨v, rfl⟩ := List.length_eq_one_iff.1 hl
  refine ⟨ad, v, e, ?_, hK⟩
  have := hcell 0 v rfl
  rw [Int.toNat_natCast, NK_sz, Nat.mul_one, Nat.add_zero] at this
  exact this

theorem C_scalar {α : Type} {enc : α → Value} {h1 : ∀ x, (enc x).oneCell' = true} {w : World} {n : Nat} {xs : List α} {A : Option Addr} (h : Kd.C (Kd.scalar enc h1) w A n xs) (i : Nat) (hi : i < xs.length) :
    ∃ ad, A = some ad ∧ w.cell? (ad.add i) = some (enc xs[i]) := by
  have hn : xs.length = n := h.1
  obtain ⟨ad, c, e, hl, hK, hcell⟩ := Kd.C_get h xs[i] (i : Int) (by omega) (by omega)
  rw [Int.toNat_natCast, List.getD_eq_getElem?_getD, List.getElem?_eq_getElem hi, Option.getD_some] at hK
  replace hK : c = [enc xs[i]] := hK
  subst hK
  refine ⟨ad, e, ?_⟩
  have := hcell 0 _ rfl
  rw [Int.toNat_natCast, show (Kd.scalar enc h1).sz = 1 from rfl, Nat.mul_one, Nat.add_zero] at this
  exact this

theorem K_drewN {α : Type} {d : Kd α} {w : World} {x : α} {cs : List Value} (h : d.K w x cs) (n : Nat) : d.K (w.drewN n) x cs := d.K_below (pw_below_drewN (Below.refl _ _) n) h
theorem C_drewN' {α : Type} {d : Kd α} {w : World} {A : Option Addr} {m : Nat} {x : List α} (h : d.C w A m x) (n : Nat) : d.C (w.drewN n) A m x := Kd.C_below h (pw_below_drewN (Below.refl _ _) n)
theorem D_refl' (w : World) (n : Nat) : Drawn0 w (w.drewN n) := ⟨⟨n, rfl⟩⟩
theorem D_trans {a b c : World} (h : Drawn0 a b) (k : Drawn0 b c) : Drawn0 a c := by
  obtain ⟨⟨n, rfl⟩⟩ := h
  obtain ⟨⟨m, rfl⟩⟩ := k
  exact (D_refl' a n).step m

theorem quiet_D {P : Program} {f : FuncId} {args : Array Value} {w : World} {n : Nat} {v : Value}
    (h : Calls P f args (w.drewN n) fun e w' => e = .returned v ∧ Drawn0 (w.drewN n) w') : Calls P f args (w.drewN n) fun e w'' => e = .returned v ∧ ∃ m, w'' = w.drewN m :=
  h.mono fun _ _ ⟨he, hD⟩ => ⟨he, by obtain ⟨⟨m, rfl⟩⟩ := hD; exact ⟨n + m, World.drewN_drewN ..⟩⟩

set_option maxHeartbeats 1000000 in
theorem kid_calls (b c : Nat) (A : Option Addr) (ks : List ByteArray) (k : ByteArray) (w : World)
    (hC : Kd.C Kd.string w A ks.length ks) (hc : ks.length ≤ c) (h0 : w.cell? ⟨b, 0, none⟩ = some (.slice A ks.length c))
    (hs : SortedK ks) (hn : ks.length ≤ 900) :
    Calls Try.prog 34 #[.pointer (some ⟨b, 0, none⟩), .string k] w fun e w' => e = .returned (.int .i64 (kidIx ks k : Nat)) ∧ Drawn0 w w' := by
  obtain ⟨n, hb⟩ := search_ok k hs (by omega)
  have hK : ((kidIx ks k : Nat) : Int) = (rank ks k : Int) + if has ks k then 1 else 0 := by
    unfold kidIx; split <;> omega
  rw [hK]
  have hr := rank_le ks k
  generalize rank ks k = r at *
  generalize has ks k = t at *
  have HC := Aside0.mk hC
  have HB := Aside0.mk hb
  have HL := Aside0.mk hc
  clear hC hb hc hs hK
  cases t
  all_goals
    go_enter Try.func34, Try.ntmps34
    go_wp2_with fail
    refine (PTreeRanks.slices_BinarySearch_string_string.calls n A c ks k _ _ _ HC.out HL.out HB.out).mono ?_
    rintro e w' ⟨rfl, ⟨nd, rfl⟩⟩
    go_wp2
    go_ret
    exact ⟨by simp, by repeat (first | exact Drawn0.refl _ | apply Drawn0.step)⟩

end Go.Proofs.Ytjabcdfbncglnaa
namespace Go.Proofs.Ytjabcdfbncglnaa
open Go.RowKit Go.Proofs.YtjabcdfbncglnaaW.PrintWords Go.Proofs.YtjabcdfbncglnaaW.PrintLast Go.Proofs.YtjabcdfbncglnaaW.PrintMore
open PTreeRanks (S59 k59 z59)
set_option linter.unusedVariables false
set_option linter.unusedSimpArgs false

theorem ta_leaf (a : Addr) (w : World) : (Instr.typeAssert (.iface 82 (.pointer (some a))) 69 82 true).run Try.prog w = .ok (.tuple #[.pointer (some a), .bool true]) w := by kernel_rfl
theorem ta_leaf_no (a : Addr) (w : World) : (Instr.typeAssert (.iface 82 (.pointer (some a))) 69 78 true).run Try.prog w = .ok (.tuple #[.pointer none, .bool false]) w := by kernel_rfl
theorem ta_inner (a : Addr) (w : World) : (Instr.typeAssert (.iface 78 (.pointer (some a))) 69 78 true).run Try.prog w = .ok (.tuple #[.pointer (some a), .bool true]) w := by kernel_rfl
theorem ta_inner_no (a : Addr) (w : World) : (Instr.typeAssert (.iface 78 (.pointer (some a))) 69 82 true).run Try.prog w = .ok (.tuple #[.pointer none, .bool false]) w := by kernel_rfl

/-- The leaf in which a key would stand. -/
def leafOf : (d : Nat) → T d → ByteArray → List S59
  | 0, l, _ => l
  | d + 1, t, k => match t.2[kidIx t.1 k]? with
    | some c => leafOf d c k
    | none => []

theorem leafOf_inner {d : Nat} {ks : List ByteArray} {cs : List (T d)} (k : ByteArray) (h : kidIx ks k < cs.length) : leafOf (d + 1) ((ks, cs) : List ByteArray × List (T d)) k = leafOf d cs[kidIx ks k] k := by
  show (match cs[kidIx ks k]? with | some c => leafOf d c k | none => []) = _
  rw [List.getElem?_eq_getElem h]

def LeafAt (w : World) (b : Nat) (l : List S59) : Prop :=
  ∃ A c A' c', w.cell? ⟨b, 0, none⟩ = some (.slice A l.length c) ∧ w.cell? ⟨b, 1, none⟩ = some (.slice A' l.length c') ∧ l.length ≤ c ∧ l.length ≤ c' ∧
    Kd.C Kd.string w A l.length (l.map S59.f0) ∧ Kd.C (Kd.int .i64) w A' l.length (l.map S59.f1)

theorem LeafAt.drawn {w w' : World} {b : Nat} {l : List S59} (h : LeafAt w b l) (hD : Drawn0 w w') : LeafAt w' b l := by
  obtain ⟨A, c, A', c', x0, x1, hc, hc', hA, hA'⟩ := h
  obtain ⟨⟨n, rfl⟩⟩ := hD
  exact ⟨A, c, A', c', by simpa using x0, by simpa using x1, hc, hc', C_drewN' hA n, C_drewN' hA' n⟩

def FindPost (d : Nat) (t : T d) (k : ByteArray) (w : World) (e : Ending) (w' : World) : Prop :=
  ∃ b, e = .returned (.tuple #[.pointer (some ⟨b, 0, none⟩), .int .i64 (rank ((leafOf d t k).map S59.f0) k : Nat), .bool (has ((leafOf d t k).map S59.f0) k)]) ∧
    LeafAt w' b (leafOf d t k) ∧ Drawn0 w w'

set_option maxRecDepth 100000 in
set_option maxHeartbeats 4000000 in
theorem find_calls (d b : Nat) (t : T d) (v : Value) (k : ByteArray) (w : World) (h1 : w.cell? ⟨b, 1, none⟩ = some v) (hK : (NK d).K w t [v]) (hS : Shape d t) :
    Calls Try.prog 33 #[.pointer (some ⟨b, 0, none⟩), .string k] w (FindPost d t k w) := by
  have HK := Aside0.mk hK
  have HS := Aside0.mk hS
  clear hK hS
  have k1 := ta_leaf
  have k2 := ta_leaf_no
  have k3 := ta_inner
  have k4 := ta_inner_no
  go_enter Try.func33, Try.ntmps33
  go_wp2
  go_loopg [7] d (fun kq v7 w' => ∃ t' : T kq, Aside0 ((NK kq).K w' t' [v7]) ∧ Aside0 (Shape kq t') ∧ Aside0 (leafOf kq t' k = leafOf d t k) ∧ Drawn0 w w')
  case atStart => exact ⟨t, HK, HS, ⟨rfl⟩, by repeat (first | exact Drawn0.refl _ | apply Drawn0.step)⟩
  case round =>
    clear HK HS
    obtain ⟨t', HK, HS, HE, hD⟩ := hrel
    cases gk with
    | zero =>
      obtain ⟨l, rfl⟩ : ∃ l : List S59, l = t' := ⟨t', rfl⟩
      obtain ⟨bl, A, c, A', c', rfl, x0, x1, hc, hc', hA, hA'⟩ := leaf_open HK.out
      obtain ⟨n, hb⟩ := search_ok k HS.out.1 (by have := HS.out.2; rw [List.length_map]; omega)
      have HB := Aside0.mk hb
      have HL : Aside0 (LeafAt wr bl l) := ⟨⟨A, c, A', c', x0, x1, hc, hc', hA, hA'⟩⟩
      have HA := Aside0.mk hA
      have HC := Aside0.mk hc
      clear hb hc hc' hA hA' 
      go_wp2_with fail
      have hq := PTreeRanks.slices_BinarySearch_string_string.calls n A c _ k _ _ wr (by rw [List.length_map]; exact HA.out) (by rw [List.length_map]; exact HC.out) HB.out
      rw [List.length_map] at hq
      refine hq.mono ?_
      rintro e w' ⟨rfl, hD2⟩
      go_wp2
      go_ret3
      have := HE.out
      subst this
      exact ⟨bl, rfl, HL.out.drawn hD2, D_trans hD hD2⟩
    | succ g =>
      obtain ⟨ks, cs, rfl⟩ : ∃ (ks : List ByteArray) (cs : List (T g)), ((ks, cs) : List ByteArray × List (T g)) = t' := ⟨_, _, rfl⟩
      obtain ⟨bl, A, c, A', c', rfl, x0, x1, x2, hc, hc', hA, hA'⟩ := inner_open HK.out
      obtain ⟨hs1, hs2, hs3, hs4⟩ := Shape_inner HS.out
      have hix := kidIx_le ks k
      obtain ⟨ad, v', rfl, hv, hKv⟩ := C_kid hA' (kidIx ks k) (by omega)
      have hkid := fun n => kid_calls bl c A ks k (wr.drewN n) (C_drewN' hA n) hc (by simpa using x0) hs1 hs3
      have HKid := Aside0.mk hkid
      have HKv' := fun n => Aside0.mk (K_drewN hKv n)
      have hlt : kidIx ks k < cs.length := by omega
      have HE2 : Aside0 (leafOf g cs[kidIx ks k] k = leafOf d t k) := ⟨by rw [← HE.out, leafOf_inner _ hlt]⟩
      have HS2 : Aside0 (Shape g cs[kidIx ks k]) := ⟨hs4 _ (List.getElem_mem hlt)⟩
      clear HE HS
      generalize cs[kidIx ks k] = tk at *
      generalize hkk : kidIx ks k = i at *
      have HKK := Aside0.mk hkk
      clear hkid hKv hs1 hs2 hs3 hs4 hix hkk hA hA'
      go_wp2_with fail
      go_quiet ((go_at_call 34; exact quiet_D (HKid.out _)))
      go_wp2
      go_roundg g
      case measure => omega
      case rel => exact ⟨tk, HKv' _, HS2, HE2, D_trans hD (D_refl' _ _)⟩
end Go.Proofs.Ytjabcdfbncglnaa
namespace Go.Proofs.Ytjabcdfbncglnaa
open Go.RowKit Go.Proofs.YtjabcdfbncglnaaW.PrintWords Go.Proofs.YtjabcdfbncglnaaW.PrintLast Go.Proofs.YtjabcdfbncglnaaW.PrintMore
open PTreeRanks (S59 k59 z59)
set_option linter.unusedVariables false
set_option linter.unusedSimpArgs false

def toList : (d : Nat) → T d → List S59
  | 0, l => l
  | d + 1, t => t.2.flatMap (toList d)

theorem size_eq : ∀ (d : Nat) (t : T d), size d t = (toList d t).length
  | 0, _ => rfl
  | d + 1, (ks, cs) => by
    show (cs.map (size d)).sum = (cs.flatMap (toList d)).length
    rw [List.length_flatMap]
    congr 1
    exact List.map_congr_left fun c _ => size_eq d c

theorem meth_leaf (a : Addr) (w : World) : (method 271 82 (.pointer (some a)) "keystone/tree.count").run Try.prog w = .ok (115, .pointer (some a)) w := by kernel_rfl
theorem meth_inner (a : Addr) (w : World) : (method 271 78 (.pointer (some a)) "keystone/tree.count").run Try.prog w = .ok (114, .pointer (some a)) w := by kernel_rfl

set_option maxHeartbeats 1000000 in
theorem count_leaf (b n c : Nat) (A : Option Addr) (w : World) (hn : n ≤ 9223372036854775807) (h0 : w.cell? ⟨b, 0, none⟩ = some (.slice A n c)) :
    Calls Try.prog 115 #[.pointer (some ⟨b, 0, none⟩)] w fun e w' => e = .returned (.int .i64 n) ∧ w = w' := by
  go_enter Try.func115, Try.ntmps115
  go_wp2
  go_ret
  exact ⟨by simp, rfl⟩

set_option maxHeartbeats 1000000 in
theorem count_inner (b : Nat) (n : Int) (w : World) (h0 : w.cell? ⟨b, 2, none⟩ = some (.int .i64 n)) :
    Calls Try.prog 114 #[.pointer (some ⟨b, 0, none⟩)] w fun e w' => e = .returned (.int .i64 n) ∧ w = w' := by
  go_enter Try.func114, Try.ntmps114
  go_wp2
  go_ret
  exact ⟨by simp, rfl⟩

/-- A node's count, by its dynamic type. -/
theorem count_any {d : Nat} {t : T d} {v : Value} {w : World} (h : (NK d).K w t [v]) :
    (∃ b, v = .iface 82 (.pointer (some ⟨b, 0, none⟩)) ∧ Calls Try.prog 115 #[.pointer (some ⟨b, 0, none⟩)] w fun e w' => e = .returned (.int .i64 (size d t : Nat)) ∧ w = w') ∨
    (∃ b, v = .iface 78 (.pointer (some ⟨b, 0, none⟩)) ∧ Calls Try.prog 114 #[.pointer (some ⟨b, 0, none⟩)] w fun e w' => e = .returned (.int .i64 (size d t : Nat)) ∧ w = w') := by
  cases d with
  | zero =>
    obtain ⟨l, rfl⟩ : ∃ l : List S59, l = t := ⟨t, rfl⟩
    obtain ⟨b, A, c, A', c', rfl, x0, x1, hc, hc', hA, hA'⟩ := leaf_open h
    exact .inl ⟨b, rfl, count_leaf b _ _ _ _ hA.2.1 x0⟩
  | succ d =>
    obtain ⟨ks, cs, rfl⟩ : ∃ (ks : List ByteArray) (cs : List (T d)), ((ks, cs) : List ByteArray × List (T d)) = t := ⟨_, _, rfl⟩
    obtain ⟨b, A, c, A', c', rfl, x0, x1, x2, hc, hc', hA, hA'⟩ := inner_open h
    exact .inr ⟨b, rfl, count_inner b _ _ x2⟩

theorem NK_form {d : Nat} {t : T d} {v : Value} {w : World} (h : (NK d).K w t [v]) : ∃ ty b, v = .iface ty (.pointer (some ⟨b, 0, none⟩)) := by
  rcases count_any h with ⟨b, rfl, _⟩ | ⟨b, rfl, _⟩ <;> exact ⟨_, _, rfl⟩

set_option maxHeartbeats 1000000 in
theorem none_some (b : Nat) {d : Nat} {t : T d} {v : Value} (w : World) (hK : (NK d).K w t [v]) (h1 : w.cell? ⟨b, 1, none⟩ = some v) :
    Calls Try.prog 32 #[.pointer (some ⟨b, 0, none⟩)] w fun e w' => e = .returned (.bool false) ∧ w = w' := by
  obtain ⟨ty, bt, rfl⟩ := NK_form hK
  clear hK
  go_enter Try.func32, Try.ntmps32
  go_wp2
  go_ret
  exact ⟨by simp, rfl⟩

set_option maxRecDepth 100000 in
set_option maxHeartbeats 1000000 in
theorem len_calls (b d : Nat) (t : T d) (v : Value) (w : World) (h1 : w.cell? ⟨b, 1, none⟩ = some v) (hK : (NK d).K w t [v]) :
    Calls Try.prog 12 #[.pointer (some ⟨b, 0, none⟩)] w fun e w' => e = .returned (.int .i64 (size d t : Nat)) ∧ w = w' := by
  have hno := none_some b w hK h1
  have m1 := meth_leaf
  have m2 := meth_inner
  rcases count_any hK with ⟨bt, rfl, hcnt⟩ | ⟨bt, rfl, hcnt⟩
  all_goals
    have HC := Aside0.mk hcnt
    have HN := Aside0.mk hno
    clear hcnt hno hK
    go_enter Try.func12, Try.ntmps12
    go_wp2_with fail
    refine HN.out.mono ?_
    rintro e w' ⟨rfl, rfl⟩
    go_wp2_with fail
    refine HC.out.mono ?_
    rintro e w' ⟨rfl, rfl⟩
    go_wp2
    go_ret
    exact ⟨by simp, rfl⟩

end Go.Proofs.Ytjabcdfbncglnaa
namespace Go.Proofs.Ytjabcdfbncglnaa
open Go.RowKit Go.Proofs.YtjabcdfbncglnaaW.PrintWords Go.Proofs.YtjabcdfbncglnaaW.PrintLast Go.Proofs.YtjabcdfbncglnaaW.PrintMore
open PTreeRanks (S59 k59 z59)
set_option linter.unusedVariables false
set_option linter.unusedSimpArgs false

/-- What Get answers of a leaf. -/
def getV (l : List S59) (k : ByteArray) : Int := if has (l.map S59.f0) k then (l.getD (rank (l.map S59.f0) k) z59).f1 else 0

set_option maxRecDepth 100000 in
set_option maxHeartbeats 4000000 in
theorem get_calls (b d : Nat) (t : T d) (v : Value) (k : ByteArray) (w : World) (h1 : w.cell? ⟨b, 1, none⟩ = some v) (hK : (NK d).K w t [v]) (hS : Shape d t) :
    Calls Try.prog 14 #[.pointer (some ⟨b, 0, none⟩), .string k] w fun e w' => e = .returned (.tuple #[.int .i64 (getV (leafOf d t k) k), .bool (has ((leafOf d t k).map S59.f0) k)]) ∧ Drawn0 w w' := by
  have hno := Aside0.mk (none_some b w hK h1)
  have hf := Aside0.mk (find_calls d b t v k w h1 hK hS)
  clear hK hS
  have hg : getV (leafOf d t k) k = if has (((leafOf d t k).map S59.f0)) k then ((leafOf d t k).getD (rank ((leafOf d t k).map S59.f0) k) z59).f1 else 0 := rfl
  have hl : has ((leafOf d t k).map S59.f0) k = true → rank ((leafOf d t k).map S59.f0) k < (leafOf d t k).length := fun h => by
    have := has_lt h
    rwa [List.length_map] at this
  rw [hg]
  have HF : Aside0 (Calls Try.prog 33 #[.pointer (some ⟨b, 0, none⟩), .string k] w (FindPost d t k w)) := hf
  clear hf hg
  unfold FindPost at HF
  generalize leafOf d t k = l at *
  generalize rank (l.map S59.f0) k = r at *
  generalize has (l.map S59.f0) k = th at *
  cases th
  · clear hl
    go_enter Try.func14, Try.ntmps14
    go_wp2_with fail
    refine hno.out.mono ?_
    rintro e w' ⟨rfl, rfl⟩
    go_wp2_with fail
    refine HF.out.mono ?_
    rintro e w' ⟨bl, rfl, hL, hD⟩
    go_wp2
    go_ret2
    exact ⟨by simp, hD⟩
  · have hl' := hl rfl
    clear hl
    rw [if_pos rfl, show (l.getD r z59).f1 = l[r].f1 by rw [List.getD_eq_getElem?_getD, List.getElem?_eq_getElem hl']; rfl]
    generalize hval : l[r].f1 = val at *
    have HV := Aside0.mk hval
    clear hval
    go_enter Try.func14, Try.ntmps14
    go_wp2_with fail
    refine hno.out.mono ?_
    rintro e w' ⟨rfl, rfl⟩
    go_wp2_with fail
    refine HF.out.mono ?_
    rintro e w' ⟨bl, rfl, hL, hD⟩
    obtain ⟨A, c, A', c', x0, x1, hc, hc', hA, hA'⟩ := hL
    obtain ⟨ad, rfl, hcell⟩ := C_scalar hA' r (by rw [List.length_map]; exact hl')
    rw [List.getElem_map, HV.out] at hcell
    have hD := Aside0.mk hD
    clear hA hA' x0 hno HF HV
    go_wp2
    go_ret2
    exact ⟨by simp, hD.out⟩

end Go.Proofs.Ytjabcdfbncglnaa
namespace Go.Proofs.Ytjabcdfbncglnaa
open Go.RowKit Go.Proofs.YtjabcdfbncglnaaW.PrintWords Go.Proofs.YtjabcdfbncglnaaW.PrintLast Go.Proofs.YtjabcdfbncglnaaW.PrintMore
open PTreeRanks (S59 k59 z59)
set_option linter.unusedVariables false
set_option linter.unusedSimpArgs false

def sizes {d : Nat} (cs : List (T d)) : Nat := (cs.map (size d)).sum

/-- How many keys below. -/
def rankT : (d : Nat) → T d → ByteArray → Nat
  | 0, l, k => rank (List.map S59.f0 l) k
  | d + 1, t, k => sizes (t.2.take (kidIx t.1 k)) + match t.2[kidIx t.1 k]? with
    | some c => rankT d c k
    | none => 0

theorem rankT_inner {d : Nat} {ks : List ByteArray} {cs : List (T d)} (k : ByteArray) (h : kidIx ks k < cs.length) :
    rankT (d + 1) ((ks, cs) : List ByteArray × List (T d)) k = sizes (cs.take (kidIx ks k)) + rankT d cs[kidIx ks k] k := by
  show sizes (cs.take (kidIx ks k)) + (match cs[kidIx ks k]? with | some c => rankT d c k | none => 0) = _
  rw [List.getElem?_eq_getElem h]

theorem sizes_take {d : Nat} (cs : List (T d)) (j : Nat) (h : j < cs.length) : sizes (cs.take (j + 1)) = sizes (cs.take j) + size d cs[j] := by
  unfold sizes
  rw [List.take_succ_eq_append_getElem h, List.map_append, List.sum_append]
  simp
theorem sizes_take_le {d : Nat} (cs : List (T d)) (j : Nat) (h : j < cs.length) : sizes (cs.take j) + size d cs[j] ≤ sizes cs := by
  rw [← sizes_take cs j h]
  conv => rhs; rw [← List.take_append_drop (j + 1) cs]
  unfold sizes
  rw [List.map_append, List.sum_append]
  omega
theorem size_inner (d : Nat) (ks : List ByteArray) (cs : List (T d)) : size (d + 1) ((ks, cs) : List ByteArray × List (T d)) = sizes cs := rfl

theorem rankT_le0 (l : List S59) (k : ByteArray) : rank (l.map S59.f0) k ≤ l.length := by
  have := rank_le (l.map S59.f0) k
  rwa [List.length_map] at this
theorem rankT_le : ∀ (d : Nat) (t : T d) (k : ByteArray), rankT d t k ≤ size d t
  | 0, l, k => rankT_le0 l k
  | d + 1, (ks, cs), k => by
    rw [size_inner]
    rcases Nat.lt_or_ge (kidIx ks k) cs.length with h | h
    · rw [rankT_inner k h]
      have := sizes_take_le cs _ h
      have := rankT_le d cs[kidIx ks k] k
      omega
    · show sizes (cs.take (kidIx ks k)) + (match cs[kidIx ks k]? with | some c => rankT d c k | none => 0) ≤ _
      rw [List.getElem?_eq_none h, List.take_of_length_le h]
      exact Nat.le_refl _

set_option maxRecDepth 100000 in
set_option maxHeartbeats 4000000 in
theorem rank_calls (d b : Nat) (t : T d) (v : Value) (k : ByteArray) (w : World) (h1 : w.cell? ⟨b, 1, none⟩ = some v) (hK : (NK d).K w t [v]) (hS : Shape d t) (hB : size d t ≤ 1099511627776) :
    Calls Try.prog 15 #[.pointer (some ⟨b, 0, none⟩), .string k] w fun e w' => e = .returned (.int .i64 (rankT d t k : Nat)) ∧ Drawn0 w w' := by
  have hno := Aside0.mk (none_some b w hK h1)
  have HK := Aside0.mk hK
  have HS := Aside0.mk hS
  clear hK hS
  have k1 := ta_leaf
  have k2 := ta_leaf_no
  have k3 := ta_inner
  have k4 := ta_inner_no
  have m1 := meth_leaf
  have m2 := meth_inner
  go_enter Try.func15, Try.ntmps15
  go_wp2_with fail
  refine hno.out.mono ?_
  rintro e w' ⟨rfl, rfl⟩
  go_wp2
  go_loopg [5, 6] d (fun kq v5 v6 w' => ∃ (t' : T kq) (r : Nat), v5 = .int .i64 r ∧ Aside0 ((NK kq).K w' t' [v6]) ∧ Aside0 (Shape kq t') ∧ Aside0 (r + rankT kq t' k = rankT d t k) ∧ Aside0 (r + size kq t' ≤ 1099511627776) ∧ Drawn0 w w')
  case atStart => exact ⟨t, 0, rfl, HK, HS, ⟨by omega⟩, ⟨by omega⟩, by repeat (first | exact Drawn0.refl _ | apply Drawn0.step)⟩
  case round =>
    clear HK HS hno
    obtain ⟨t', r, rfl, HK, HS, HE, HR, hD⟩ := hrel
    cases gk with
    | zero =>
      obtain ⟨l, rfl⟩ : ∃ l : List S59, l = t' := ⟨t', rfl⟩
      obtain ⟨bl, A, c, A', c', rfl, x0, x1, hc, hc', hA, hA'⟩ := leaf_open HK.out
      obtain ⟨n, hb⟩ := search_ok k HS.out.1 (by have := HS.out.2; rw [List.length_map]; omega)
      have hq := Aside0.mk (PTreeRanks.slices_BinarySearch_string_string.calls n A c _ k _ _ wr (by rw [List.length_map]; exact hA) (by rw [List.length_map]; exact hc) hb)
      rw [List.length_map] at hq
      have hrl : r + rank (l.map S59.f0) k ≤ 1099511627776 := Nat.le_trans (Nat.add_le_add_left (rankT_le 0 l k) r) HR.out
      have HE' : Aside0 ((rankT d t k : Nat) = r + rank (l.map S59.f0) k) := ⟨HE.out.symm⟩
      clear hb hc hc' hA hA' HE HS HR HK
      generalize rank (l.map S59.f0) k = rk at *
      generalize has (l.map S59.f0) k = th at *
      have hD := Aside0.mk hD
      go_wp2_with fail
      refine hq.out.mono ?_
      rintro e w' ⟨rfl, hD2⟩
      go_wp2
      go_ret
      exact ⟨by rw [HE'.out]; simp, D_trans hD.out hD2⟩
    | succ g =>
      obtain ⟨ks, cs, rfl⟩ : ∃ (ks : List ByteArray) (cs : List (T g)), ((ks, cs) : List ByteArray × List (T g)) = t' := ⟨_, _, rfl⟩
      obtain ⟨bl, A, c, A', c', rfl, x0, x1, x2, hc, hc', hA, hA'⟩ := inner_open HK.out
      obtain ⟨hs1, hs2, hs3, hs4⟩ := Shape_inner HS.out
      have hix := kidIx_le ks k
      have hlt : kidIx ks k < cs.length := by omega
      have hkid := Aside0.mk (kid_calls bl c A ks k wr hA hc x0 hs1 hs3)
      have HE2 : Aside0 (r + sizes (cs.take (kidIx ks k)) + rankT g cs[kidIx ks k] k = rankT d t k) := ⟨by rw [← HE.out, rankT_inner _ hlt]; omega⟩
      have HS2 : Aside0 (Shape g cs[kidIx ks k]) := ⟨hs4 _ (List.getElem_mem hlt)⟩
      have HR2 : Aside0 (∀ j, (h : j < cs.length) → r + sizes (cs.take j) + size g cs[j] ≤ 1099511627776) := ⟨fun j h => by have := sizes_take_le cs j h; have := HR.out; rw [size_inner] at this; omega⟩
      have HA' := Aside0.mk hA'
      have hD := Aside0.mk hD
      have hc9 : cs.length ≤ 901 := by omega
      obtain ⟨ad, _, rfl, _, _⟩ := C_kid hA' (kidIx ks k) hlt
      clear HE HS HR hs1 hs2 hs3 hs4 hA hA' hix HK
      generalize kidIx ks k = i at *
      go_wp2_with fail
      refine hkid.out.mono ?_
      rintro e w' ⟨rfl, ⟨nk, rfl⟩⟩
      go_wp2
      go_loopw [5, 34] (fun v5 v34 w' => ∃ j : Nat, j ≤ i ∧ v34 = .int .i64 j ∧ v5 = .int .i64 ((r + sizes (cs.take j) : Nat) : Int) ∧ Drawn0 wr w') (fun _ v34 _ => i - (intOf v34).toNat)
      case atStart => exact ⟨0, Nat.zero_le _, rfl, by simp [sizes], D_refl' _ _⟩
      case round =>
        obtain ⟨j, hj, rfl, rfl, ⟨nj, rfl⟩⟩ := hrel
        by_cases hji : j < i
        · obtain ⟨ad2, vj, e2, hcell, hKj⟩ := C_kid (C_drewN' HA'.out nj) j (by omega)
          cases e2
          have hrj := HR2.out j (by omega)
          have hst := sizes_take cs j (by omega)
          have HST : Aside0 (((r + sizes (cs.take (j + 1)) : Nat) : Int) = ((r + sizes (cs.take j) : Nat) : Int) + ((size g cs[j] : Nat) : Int)) := ⟨by rw [hst]; omega⟩
          clear hst
          generalize cs[j] = tj at *
          generalize r + sizes (cs.take j) = sj at *
          rcases count_any hKj with ⟨bt, rfl, hcnt⟩ | ⟨bt, rfl, hcnt⟩
          all_goals
            have HCN := Aside0.mk hcnt
            clear hcnt hKj
            go_wp2_with fail
            refine HCN.out.mono ?_
            rintro e w' ⟨rfl, rfl⟩
            go_wp2
            go_roundw
            case rel => exact ⟨j + 1, by omega, by go_num, by rw [HST.out], D_refl' _ _⟩
            case measure => simp [intOf]; omega
        · obtain rfl : j = i := by omega
          obtain ⟨ad2, vj, e2, hcell, hKj⟩ := C_kid (C_drewN' HA'.out nj) j hlt
          cases e2
          go_wp2
          go_roundg g
          case measure => omega
          case rel => exact ⟨_, _, rfl, ⟨hKj⟩, HS2, HE2, ⟨HR2.out _ hlt⟩, D_trans hD.out (D_refl' _ _)⟩

end Go.Proofs.Ytjabcdfbncglnaa
namespace Go.Proofs.Ytjabcdfbncglnaa
open Go.RowKit Go.Proofs.YtjabcdfbncglnaaW.PrintWords Go.Proofs.YtjabcdfbncglnaaW.PrintLast Go.Proofs.YtjabcdfbncglnaaW.PrintMore
set_option linter.unusedVariables false
set_option linter.unusedSimpArgs false

theorem run_copy_g {P : Program} (w : World) (dT sT ty elem : TypeId) (hu : P.underlying dT = some (.slice elem)) (hsz : (P.info? elem).map (·.size) = some 1)
    (dp sp : Option Addr) (dLen dCap sLen sCap : Nat) (g off : Nat) (cur : List Value) (t : TypeId) (hg : w.heap[g]? = some (.cells cur.toArray t (0, 0))) (cs : List Value) (hn : cs.length = Nat.min sLen dLen)
    (hpos : 0 < cs.length → dp = some ⟨g, off, none⟩ ∧ ∃ ad, sp = some ad ∧ ∀ j v, cs[j]? = some v → w.cell? (ad.add j) = some v)
    (hfit : off + cs.length ≤ cur.length) (h1 : ∀ v ∈ cs, v.oneCell' = true) :
    ∃ w', (Builtin.copy_ #[dT, sT] ty #[.slice dp dLen dCap, .slice sp sLen sCap]).run P w = .ok (goInt cs.length) w' ∧
      w'.heap[g]? = some (.cells (splice cur off cs).toArray t (0, 0)) ∧ w.grownBy w' (some g) := by
  by_cases h0 : cs.length = 0
  · obtain rfl : cs = [] := List.eq_nil_of_length_eq_zero h0
    refine ⟨w, run_copy_none (P := P) w dT sT ty elem dp sp dLen dCap sLen sCap hu hsz (by simpa using hn.symm), ?_, ⟨rfl, rfl, rfl, Nat.le_refl _, fun _ _ _ => rfl⟩⟩
    simpa [splice] using hg
  · obtain ⟨rfl, ad, rfl, hsrc⟩ := hpos (by omega)
    refine ⟨_, run_copy_row (P := P) w dT sT ty elem g off dLen dCap ad sLen sCap cur.toArray t cs hu hsz hg hn hsrc (by simpa using hfit) h1, ?_, ?_⟩
    · simpa [splice] using setRow_heap w g _ (splice cur off cs).toArray t _ hg
    · exact ⟨rfl, rfl, rfl, by simp, fun k hk hne => setRow_other w g k _ (fun e => hne (by rw [e]))⟩

theorem wpList_copy_g {P : Program} {w : World} {ops : Array Oper} {rest : List Oper} {o : Oper} {a : Act} {Q : Exit → Act → World → Prop} (hgd : o.guard = none) (d s : Operand) (dT sT : TypeId)
    (ho : o.op = .call { callee := .builtin .copy, args := #[d, s], argTypes := #[dT, sT] }) (elem : TypeId) (hu : P.underlying dT = some (.slice elem)) (hsz : (P.info? elem).map (·.size) = some 1)
    (dp sp : Option Addr) (dLen dCap sLen sCap : Nat) (hd : a.eval d = .slice dp dLen dCap) (hs : a.eval s = .slice sp sLen sCap)
    (g off : Nat) (cur : List Value) (t : TypeId) (hg : w.heap[g]? = some (.cells cur.toArray t (0, 0))) (cs : List Value) (hn : cs.length = Nat.min sLen dLen)
    (hpos : 0 < cs.length → dp = some ⟨g, off, none⟩ ∧ ∃ ad, sp = some ad ∧ ∀ j v, cs[j]? = some v → w.cell? (ad.add j) = some v)
    (hfit : off + cs.length ≤ cur.length) (h1 : ∀ v ∈ cs, v.oneCell' = true)
    (h : ∀ w', Aside0 (w'.heap[g]? = some (.cells (splice cur off cs).toArray t (0, 0))) → Aside0 (w.grownBy w' (some g)) → wpList P ops Q rest (a.put o.dst (goInt cs.length)) w') :
    wpList P ops Q (o :: rest) a w := by
  obtain ⟨w', hrun, h2, h3⟩ := run_copy_g (P := P) w dT sT o.type elem hu hsz dp sp dLen dCap sLen sCap g off cur t hg cs hn hpos hfit h1
  refine wpList_plain hgd fun K hK => ?_
  unfold Oper.wp
  simp [execOp, ho, resolve, invoke, builtin, hd, hs, hrun, Result.andThen]
  exact hK _ _ (h w' ⟨h2⟩ ⟨h3⟩)

theorem step_copy_g {P : Program} {ops : Array Oper} {o : Oper} {a : Act} {w : World} {K : Act → World → Prop} {Q : Exit → Act → World → Prop} {E : Prop} (hgd : o.guard = none) (d s : Operand) (dT sT : TypeId)
    (ho : o.op = .call { callee := .builtin .copy, args := #[d, s], argTypes := #[dT, sT] }) (elem : TypeId) (hu : P.underlying dT = some (.slice elem)) (hsz : (P.info? elem).map (·.size) = some 1)
    (dp sp : Option Addr) (dLen dCap sLen sCap : Nat) (hd : a.eval d = .slice dp dLen dCap) (hs : a.eval s = .slice sp sLen sCap)
    (g off : Nat) (cur : List Value) (t : TypeId) (hg : w.heap[g]? = some (.cells cur.toArray t (0, 0))) (cs : List Value) (hn : cs.length = Nat.min sLen dLen)
    (hpos : 0 < cs.length → dp = some ⟨g, off, none⟩ ∧ ∃ ad, sp = some ad ∧ ∀ j v, cs[j]? = some v → w.cell? (ad.add j) = some v)
    (hfit : off + cs.length ≤ cur.length) (h1 : ∀ v ∈ cs, v.oneCell' = true)
    (h : ∀ w', Aside0 (w'.heap[g]? = some (.cells (splice cur off cs).toArray t (0, 0))) → Aside0 (w.grownBy w' (some g)) → K (a.put o.dst (goInt cs.length)) w') :
    if Region.wanted o (yielded ops a.tmps) = true then Oper.wp P o a w K Q else E := by
  obtain ⟨w', hrun, h2, h3⟩ := run_copy_g (P := P) w dT sT o.type elem hu hsz dp sp dLen dCap sLen sCap g off cur t hg cs hn hpos hfit h1
  have hw : Region.wanted o (yielded ops a.tmps) = true := by simp [Region.wanted, hgd]
  rw [if_pos hw]
  unfold Oper.wp
  simp [execOp, ho, resolve, invoke, builtin, hd, hs, hrun, Result.andThen]
  exact h w' ⟨h2⟩ ⟨h3⟩

theorem own_of_heap {w : World} {base e g cap n : Nat} {cur xs : List Value} (hb : base ≤ g) (hh : w.heap[g]? = some (.cells cur.toArray e (0, 0))) (hc : cur.length = cap) (hm : cap ≤ maxLen) (hn : n ≤ cap) (hx : cur.take n = xs) :
    w.ownsRow base e 1 (.slice (some ⟨g, 0, none⟩) n cap) n xs := by
  refine ⟨by rw [← hx, List.length_take]; omega, .inr ⟨g, cap, cur.toArray, rfl, hb, hh, hn, hm, by simp [hc], ?_⟩⟩
  simp [hx]

theorem grownBy_trans {a b c : World} {u : Option Nat} (h : a.grownBy b u) (k : b.grownBy c u) : a.grownBy c u :=
  ⟨k.os.trans h.os, k.tape.trans h.tape, k.output.trans h.output, Nat.le_trans h.size k.size, fun i hi hne => (k.block i (Nat.lt_of_lt_of_le hi h.size) hne).trans (h.block i hi hne)⟩
theorem grownBy_refl (a : World) (u : Option Nat) : a.grownBy a u := ⟨rfl, rfl, rfl, Nat.le_refl _, fun _ _ _ => rfl⟩
theorem grownBy_drew {a b : World} {u : Option Nat} (h : a.grownBy b u) : a.grownBy b.drew u := ⟨h.os, h.tape, h.output, h.size, h.block⟩
theorem grownBy_of_drew {a b : World} {u : Option Nat} (h : a.drew.grownBy b u) : a.grownBy b u := ⟨h.os, h.tape, h.output, h.size, h.block⟩
theorem grownBy_none {a b : World} (h : a.grownBy b none) (u : Option Nat) : a.grownBy b u := ⟨h.os, h.tape, h.output, h.size, fun i hi _ => h.block i hi (by simp)⟩
theorem grownBy_below {a b : World} {B : Nat} {u : Option Nat} (h : a.grownBy b u) (hB : B ≤ a.heap.size) (hu : ∀ k, u = some k → B ≤ k) : Below B a b :=
  ⟨h.os, h.tape, h.output, h.size, fun i hi => h.block i (by omega) (fun e => by have := hu i e.symm; omega)⟩

end Go.Proofs.Ytjabcdfbncglnaa
namespace Go.Proofs.Ytjabcdfbncglnaa
open Go.RowKit Go.Proofs.YtjabcdfbncglnaaW.PrintWords Go.Proofs.YtjabcdfbncglnaaW.PrintLast Go.Proofs.YtjabcdfbncglnaaW.PrintMore
set_option linter.unusedVariables false
set_option linter.unusedSimpArgs false

theorem info9s : (Try.prog.info? 9).map (fun i => (i.zero, i.size, i.bytes)) = some (some (.string ⟨#[]⟩), 1, 16) := by kernel_rfl
theorem siz9 : (Try.prog.info? 9).map (·.size) = some 1 := by kernel_rfl
theorem q22 (w : World) (a : Option Addr) (n c n' c' : Nat) : (binOp .eql 22 (.slice a n c) (.slice none n' c')).run Try.prog w = .ok (.bool a.isNone) w := Lib.run_eql_slice_nil w _ _ a n c n' c' Try.underlying22

set_option maxHeartbeats 2000000 in
set_option maxRecDepth 100000 in
/-- slices.Clone at str. -/
theorem clone_str (A : Option Addr) (n c : Nat) (vs : List Value) (w : World) (hA : 0 < n → ∃ ad, A = some ad ∧ ∀ j u, vs[j]? = some u → w.cell? (ad.add j) = some u) (hl : vs.length = n) (hbig : n ≤ 8589934592) (h1 : ∀ u ∈ vs, u.oneCell' = true) :
    Calls Try.prog 71 #[.slice A n c] w fun e w' => ∃ v', e = .returned v' ∧ w'.ownsRow w.heap.size 9 1 v' n vs ∧ Below w.heap.size w w' := by
  have q22 := q22
  obtain ⟨i0, hi, hz0, hz1, hz2⟩ := info_parts info9s
  cases A with
  | none =>
    have h0 : n = 0 := by
      rcases Nat.eq_zero_or_pos n with h | h
      · exact h
      · obtain ⟨_, h2, _⟩ := hA h; cases h2
    subst h0
    obtain rfl := List.length_eq_zero_iff.1 hl
    clear hA
    go_enter Try.func71, Try.ntmps71
    go_wp2
    go_ret
    exact ⟨_, rfl, World.ownsRow_nil _ _ _ _, Below.refl _ _⟩
  | some ad =>
    have HA : Aside0 (∀ j u, vs[j]? = some u → w.cell? (ad.add j) = some u) := ⟨fun j u hj => by
      have : j < vs.length := (List.getElem?_eq_some_iff.1 hj).1
      obtain ⟨ad', e, h⟩ := hA (by omega)
      cases e
      exact h j u hj⟩
    have HL := Aside0.mk hl
    have H1 := Aside0.mk h1
    have hmx : n ≤ maxLen := by unfold maxLen; omega
    clear hA hl h1
    go_enter Try.func71, Try.ntmps71
    go_wp2_with (at_builtin; refine wpList_append_own _ rfl _ _ 22 rfl w.heap.size 9 i0 (.string ⟨#[]⟩) 1 16 Try.underlying22 hi hz0 hz1 hz2 rfl (by decide) _ _ _ rfl (World.ownsRow_made w #[] 0 (Nat.le_refl _) (Nat.zero_le _) (by simp)) ad n c vs rfl ?qc1 ?qc2 ?qc3 ?qc4 ?qc5 ?qc6 ?_)
    case qc1 => rw [Nat.mul_one]; exact HL.out
    case qc2 =>
      intro j u hj
      exact Lib.cell?_alloc_some _ (HA.out j u hj)
    case qc3 => exact H1.out
    case qc4 => rw [Nat.zero_add]; exact hmx
    case qc5 => rw [Nat.zero_add]; omega
    case qc6 => simp
    intro v' w1 hown hgrow hnil
    have hown' := Aside0.mk hown
    have hgrow' := Aside0.mk hgrow
    clear hown hgrow hnil
    go_wp2
    go_ret
    refine ⟨v', rfl, by simpa using hown'.out, ?_⟩
    exact ((Below.refl _ w).alloc (Nat.le_refl _) _).grown hgrow'.out (by simp) (by intro k hk; simp [Value.ownBlock] at hk; omega)

/-- The slots of a row of one's own that is not nil. -/
theorem row_parts_str {w : World} {base n : Nat} {v : Value} {cs : List Value} (h : w.ownsRow base 9 1 v n cs) (hn : 0 < n) :
    ∃ g cap cur, v = .slice (some ⟨g, 0, none⟩) n cap ∧ base ≤ g ∧ w.heap[g]? = some (.cells (List.toArray cur) 9 (0, 0)) ∧ n ≤ cap ∧ cap ≤ maxLen ∧ cur.length = cap ∧ cur.take n = cs := by
  rcases h.2 with ⟨rfl, rfl⟩ | ⟨g, cap, cur, rfl, hb, hh, h1, h2, h3, h4⟩
  · omega
  · exact ⟨g, cap, cur.toList, rfl, hb, by simpa using hh, h1, h2, by simpa using h3, by simpa using h4⟩

end Go.Proofs.Ytjabcdfbncglnaa
