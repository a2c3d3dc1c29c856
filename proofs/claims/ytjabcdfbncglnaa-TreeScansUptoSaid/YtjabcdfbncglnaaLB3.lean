/- WHAT IS PROVED: what put computes on a tree of any depth, and its size. well-formed trees, and where a key stands in one. put keeps a leaf well-formed, and the flat list of a tree rises. put into an inner node does so if put into its kids does. Put of a tree leaves the tree that putRoot tells. -/
import Derived.Test.YtjabcdfbncglnaaLB2
namespace Go.Proofs.Ytjabcdfbncglnaa
open Go.RowKit Go.Proofs.YtjabcdfbncglnaaW.PrintWords Go.Proofs.YtjabcdfbncglnaaW.PrintLast Go.Proofs.YtjabcdfbncglnaaW.PrintMore
open PTreeRanks (S59 k59 z59)
set_option linter.unusedVariables false
set_option linter.unusedSimpArgs false

/-- What a put makes of an inner node whose kid number i has become s. -/
def putUp {d : Nat} (order : Nat) (ks : List ByteArray) (cs : List (T d)) (i : Nat) (s : T d × Option (ByteArray × T d)) : (List ByteArray × List (T d)) × Option (ByteArray × (List ByteArray × List (T d))) :=
  match s.2 with
  | none => ((ks, cs.set i s.1), none)
  | some (mid, r) => halveT order (ks.take i ++ mid :: ks.drop i) ((cs.set i s.1).take (i + 1) ++ r :: (cs.set i s.1).drop (i + 1))

def putT (order : Nat) : (d : Nat) → T d → ByteArray → Int → T d × Option (ByteArray × T d)
  | 0, l, k, x => putLeaf order l k x
  | d + 1, t, k, x => match t.2[kidIx t.1 k]? with
    | none => (t, none)
    | some c => putUp order t.1 t.2 (kidIx t.1 k) (putT order d c k x)

theorem putT_inner (order : Nat) {d : Nat} {ks : List ByteArray} {cs : List (T d)} (k : ByteArray) (x : Int) (h : kidIx ks k < cs.length) :
    putT order (d + 1) ((ks, cs) : List ByteArray × List (T d)) k x = putUp order ks cs (kidIx ks k) (putT order d cs[kidIx ks k] k x) := by
  show (match cs[kidIx ks k]? with | none => _ | some c => putUp order ks cs (kidIx ks k) (putT order d c k x)) = _
  rw [List.getElem?_eq_getElem h]

def sizeS {d : Nat} (s : T d × Option (ByteArray × T d)) : Nat := size d s.1 + match s.2 with
  | none => 0
  | some (_, r) => size d r

theorem sizes_append {d : Nat} (a b : List (T d)) : sizes (a ++ b) = sizes a + sizes b := by unfold sizes; rw [List.map_append, List.sum_append]
theorem sizes_cons {d : Nat} (a : T d) (b : List (T d)) : sizes (a :: b) = size d a + sizes b := by unfold sizes; rw [List.map_cons, List.sum_cons]
theorem sizes_split {d : Nat} (cs : List (T d)) (i : Nat) : sizes (cs.take i) + sizes (cs.drop i) = sizes cs := by rw [← sizes_append, List.take_append_drop]
theorem sizes_set {d : Nat} (cs : List (T d)) (i : Nat) (c : T d) (h : i < cs.length) : sizes (cs.set i c) + size d cs[i] = sizes cs + size d c := by
  rw [List.set_eq_take_append_cons_drop, if_pos h, sizes_append, sizes_cons]
  have h1 := sizes_split cs i
  have h2 := List.drop_eq_getElem_cons h
  rw [h2, sizes_cons] at h1
  omega
theorem sizes_ins {d : Nat} (cs : List (T d)) (i : Nat) (c : T d) : sizes (cs.take i ++ c :: cs.drop i) = sizes cs + size d c := by
  rw [sizes_append, sizes_cons]
  have h1 := sizes_split cs i
  omega

theorem sizeS_halveT {d : Nat} (order : Nat) (ks : List ByteArray) (cs : List (T d)) : sizeS (d := d + 1) (halveT order ks cs) = sizes cs := by
  unfold halveT
  split
  · rfl
  · show sizes (cs.take _) + sizes (cs.drop _) = _
    exact sizes_split cs _
theorem sizeS_halveLeafT (order : Nat) (l : List S59) : sizeS (d := 0) (halveLeafT order l) = l.length := by
  unfold halveLeafT
  split
  · rfl
  · show (l.take _).length + (l.drop _).length = _
    rw [List.length_take, List.length_drop]
    omega

theorem putLeaf_size (order : Nat) (l : List S59) (k : ByteArray) (x : Int) : sizeS (d := 0) (putLeaf order l k x) ≤ l.length + 1 := by
  unfold putLeaf
  split
  · show (l.set _ _).length + 0 ≤ l.length + 1
    rw [List.length_set]
    omega
  · rw [sizeS_halveLeafT, List.length_append, List.length_cons, List.length_take, List.length_drop]
    omega
theorem putT_size (order : Nat) : ∀ (d : Nat) (t : T d) (k : ByteArray) (x : Int), sizeS (putT order d t k x) ≤ size d t + 1
  | 0, l, k, x => putLeaf_size order l k x
  | d + 1, (ks, cs), k, x => by
    rcases Nat.lt_or_ge (kidIx ks k) cs.length with h | h
    · rw [putT_inner order k x h]
      have ih := putT_size order d cs[kidIx ks k] k x
      generalize putT order d cs[kidIx ks k] k x = s at *
      obtain ⟨s1, _ | ⟨mid, r⟩⟩ := s
      · show sizes (cs.set _ s1) + 0 ≤ sizes cs + 1
        have := sizes_set cs _ s1 h
        have ih : size d s1 + 0 ≤ _ := ih
        omega
      · show sizeS (d := d + 1) (halveT order _ _) ≤ sizes cs + 1
        rw [sizeS_halveT, sizes_ins]
        show sizes (cs.set (kidIx ks k) s1) + size d r ≤ _
        have h3 := sizes_set cs (kidIx ks k) s1 h
        have ih : size d s1 + size d r ≤ size d cs[kidIx ks k] + 1 := ih
        omega
    · show sizeS (d := d + 1) (match cs[kidIx ks k]? with | none => ((ks, cs), none) | some c => putUp order ks cs (kidIx ks k) (putT order d c k x)) ≤ _
      rw [List.getElem?_eq_none h]
      show sizes cs + 0 ≤ sizes cs + 1
      omega

/-- What a put below a node of depth d does. -/
def PutOk (order bt : Nat) (k : ByteArray) (x : Int) (d : Nat) : Prop := ∀ (t : T d) (v : Value) (w : World) (ok : Nat → Prop), w.cell? ⟨bt, 0, none⟩ = some (.int .i64 order) → (NK d).M w 0 ok t [v] → Shape d t → size d t < 1099511627776 → (∀ k, w.heap.size ≤ k → ok k) →
  Calls Try.prog 48 #[.pointer (some ⟨bt, 0, none⟩), v, .string k, .int .i64 x] w (SplitPost d (putT order d t k x) ok w)

end Go.Proofs.Ytjabcdfbncglnaa
namespace Go.Proofs.Ytjabcdfbncglnaa
open Go.RowKit Go.Proofs.YtjabcdfbncglnaaW.PrintWords Go.Proofs.YtjabcdfbncglnaaW.PrintLast Go.Proofs.YtjabcdfbncglnaaW.PrintMore
open PTreeRanks (S59 k59 z59)
set_option linter.unusedVariables false
set_option linter.unusedSimpArgs false

def inR (lo hi : Option ByteArray) (k : ByteArray) : Prop := (∀ l, lo = some l → blt k l = false) ∧ (∀ h, hi = some h → blt k h = true)
def ltB (lo hi : Option ByteArray) : Prop := ∀ l h, lo = some l → hi = some h → blt l h = true
theorem inR_ltB {lo hi : Option ByteArray} {k : ByteArray} (h : inR lo hi k) : ltB lo hi := fun l u e1 e2 => le_blt (h.1 l e1) (h.2 u e2)

/-- The kids between the keys. -/
def WK {α : Type} (P : Option ByteArray → Option ByteArray → α → Prop) : Option ByteArray → Option ByteArray → List ByteArray → List α → Prop
  | lo, hi, [], [c] => P lo hi c
  | lo, hi, k :: ks, c :: cs => P lo (some k) c ∧ WK P (some k) hi ks cs
  | _, _, _, _ => False

def keysOf (l : List S59) : List ByteArray := l.map S59.f0

def minOf (order : Nat) : Nat → Nat
  | 0 => order / 2
  | _ + 1 => (order + 1) / 2

/-- A node of depth d, filled from m on, its keys between lo and hi. -/
def WF (order : Nat) : (d : Nat) → Nat → Option ByteArray → Option ByteArray → T d → Prop
  | 0, m, lo, hi, l => SortedK (List.map S59.f0 l) ∧ (∀ x ∈ List.map S59.f0 l, inR lo hi x) ∧ List.length (α := S59) l + 1 ≤ order ∧ m ≤ List.length (α := S59) l
  | d + 1, m, lo, hi, t => WK (WF order d (minOf order d)) lo hi t.1 t.2 ∧ t.2.length ≤ order ∧ m ≤ t.2.length

section
variable {α : Type} {P : Option ByteArray → Option ByteArray → α → Prop} {toL : α → List S59}

theorem WK_length : ∀ {lo hi : Option ByteArray} {ks : List ByteArray} {cs : List α}, WK P lo hi ks cs → cs.length = ks.length + 1
  | _, _, [], [_], _ => rfl
  | _, _, [], [], h => h.elim
  | _, _, [], _ :: _ :: _, h => h.elim
  | _, _, _ :: _, [], h => h.elim
  | _, _, k :: ks, c :: cs, h => by rw [List.length_cons, WK_length h.2, List.length_cons]

theorem WK_mem : ∀ {lo hi : Option ByteArray} {ks : List ByteArray} {cs : List α}, WK P lo hi ks cs → ∀ c ∈ cs, ∃ l u, P l u c
  | lo, hi, [], [c], h => fun x hx => by rw [List.mem_singleton.1 hx]; exact ⟨_, _, h⟩
  | _, _, [], [], h => h.elim
  | _, _, [], _ :: _ :: _, h => h.elim
  | _, _, _ :: _, [], h => h.elim
  | lo, hi, k :: ks, c :: cs, h => fun x hx => by
    rcases List.mem_cons.1 hx with rfl | hx
    · exact ⟨_, _, h.1⟩
    · exact WK_mem h.2 x hx

variable (hP : ∀ lo hi c, P lo hi c → (∀ x ∈ toL c, inR lo hi x.f0) ∧ toL c ≠ [])
include hP

theorem P_lt {lo hi : Option ByteArray} {c : α} (h : P lo hi c) : ltB lo hi := by
  obtain ⟨h1, h2⟩ := hP lo hi c h
  obtain ⟨x, hx⟩ := List.exists_mem_of_ne_nil _ h2
  exact inR_ltB (h1 x hx)

/-- Keys rise, above lo and below hi; elements lie between. -/
theorem WK_facts : ∀ {lo hi : Option ByteArray} {ks : List ByteArray} {cs : List α}, WK P lo hi ks cs →
    SortedK ks ∧ (∀ k ∈ ks, (∀ l, lo = some l → blt l k = true) ∧ (∀ u, hi = some u → blt k u = true)) ∧ (∀ c ∈ cs, ∀ x ∈ toL c, inR lo hi x.f0) ∧ ltB lo hi
  | lo, hi, [], [c], h => ⟨List.Pairwise.nil, fun k hk => by simp at hk, fun x hx => by rw [List.mem_singleton.1 hx]; exact (hP _ _ _ h).1, P_lt hP h⟩
  | _, _, [], [], h => h.elim
  | _, _, [], _ :: _ :: _, h => h.elim
  | _, _, _ :: _, [], h => h.elim
  | lo, hi, k :: ks, c :: cs, ⟨h1, h2⟩ => by
    obtain ⟨a1, a2, a3, a4⟩ := WK_facts h2
    have hk := P_lt hP h1
    refine ⟨List.pairwise_cons.2 ⟨fun x hx => (a2 x hx).1 k rfl, a1⟩, ?_, ?_, ?_⟩
    · intro x hx
      rcases List.mem_cons.1 hx with rfl | hx
      · exact ⟨fun l e => hk l x e rfl, fun u e => a4 x u rfl e⟩
      · exact ⟨fun l e => blt_trans (hk l k e rfl) ((a2 x hx).1 k rfl), (a2 x hx).2⟩
    · intro x hx y hy
      rcases List.mem_cons.1 hx with rfl | hx
      · have := (hP _ _ _ h1).1 y hy
        exact ⟨this.1, fun u e => blt_trans (this.2 k rfl) (a4 k u rfl e)⟩
      · have := a3 x hx y hy
        refine ⟨fun l e => ?_, this.2⟩
        have h3 := this.1 k rfl
        have h4 := hk l k e rfl
        cases h5 : blt y.f0 l with
        | false => rfl
        | true => rw [blt_trans h5 h4] at h3; cases h3
    · intro l u e1 e2
      exact blt_trans (hk l k e1 rfl) (a4 k u rfl e2)

/-- The number of the keys that are not above k, key by key. -/
def kx : List ByteArray → ByteArray → Nat
  | [], _ => 0
  | k0 :: ks, k => if blt k k0 then 0 else kx ks k + 1

omit hP in
theorem kx_eq : ∀ {ks : List ByteArray} {k : ByteArray}, SortedK ks → kidIx ks k = kx ks k
  | [], k, _ => by
    unfold kidIx kx rank has
    simp
  | k0 :: ks, k, hs => by
    have hs' : SortedK ks := (List.pairwise_cons.1 hs).2
    have ih := kx_eq (k := k) hs'
    unfold kx
    by_cases h : blt k k0 = true
    · rw [if_pos h]
      have h1 : rank (k0 :: ks) k = 0 := rank_cons_ge hs (blt_asymm h)
      unfold kidIx
      rw [h1]
      have : has (k0 :: ks) k = false := by
        unfold has
        rw [h1]
        apply decide_eq_false
        intro e
        have e : k0 = k := by simpa using e
        rw [e, blt_irrefl] at h
        cases h
      rw [this]
      rfl
    · rw [if_neg h, ← ih]
      have h := Bool.eq_false_iff.2 h
      by_cases h2 : blt k0 k = true
      · unfold kidIx
        have e1 : rank (k0 :: ks) k = rank ks k + 1 := rank_cons_lt h2
        have e2 : has (k0 :: ks) k = has ks k := by
          unfold has
          rw [e1]
          simp
        rw [e1, e2]
        omega
      · obtain rfl := blt_tri h (Bool.eq_false_iff.2 h2)
        unfold kidIx
        have e1 : rank (k :: ks) k = 0 := rank_cons_ge hs (blt_irrefl k)
        have e2 : has (k :: ks) k = true := by unfold has; rw [e1]; simp
        have e3 : rank ks k = 0 := rank_zero fun x hx => blt_asymm ((List.pairwise_cons.1 hs).1 x hx)
        have e4 : has ks k = false := by
          unfold has
          rw [e3]
          apply decide_eq_false
          intro e
          have := (List.pairwise_cons.1 hs).1 k (List.mem_of_getElem? e)
          rw [blt_irrefl] at this
          cases this
        rw [e1, e2, e3, e4]
        simp

/-- Where a key lies: the kid, what is left and right of it, and what may stand in its place. -/
theorem focus {hi : Option ByteArray} {k : ByteArray} : ∀ {ks : List ByteArray} {cs : List α} {lo : Option ByteArray}, WK P lo hi ks cs → inR lo hi k →
    ∃ c l u, cs[kx ks k]? = some c ∧ P l u c ∧ inR l u k ∧ (∀ x ∈ (cs.take (kx ks k)).flatMap toL, blt x.f0 k = true) ∧ (∀ x ∈ (cs.drop (kx ks k + 1)).flatMap toL, blt k x.f0 = true) ∧
      (∀ c', P l u c' → WK P lo hi ks (cs.set (kx ks k) c')) ∧
      (∀ c1 m c2, P l (some m) c1 → P (some m) u c2 → WK P lo hi (ks.take (kx ks k) ++ m :: ks.drop (kx ks k)) ((cs.set (kx ks k) c1).take (kx ks k + 1) ++ c2 :: (cs.set (kx ks k) c1).drop (kx ks k + 1)))
  | [], [c], lo, h, hk => ⟨c, lo, hi, rfl, h, hk, by simp [kx], by simp [kx], fun c' h' => h', fun c1 m c2 h1 h2 => ⟨h1, h2⟩⟩
  | [], [], _, h, _ => h.elim
  | [], _ :: _ :: _, _, h, _ => h.elim
  | _ :: _, [], _, h, _ => h.elim
  | k0 :: ks, c :: cs, lo, ⟨h1, h2⟩, hk => by
    unfold kx
    by_cases hb : blt k k0 = true
    · rw [if_pos hb]
      refine ⟨c, lo, some k0, rfl, h1, ⟨hk.1, fun u e => by cases e; exact hb⟩, by simp, ?_, fun c' h' => ⟨h', h2⟩, fun c1 m c2 a1 a2 => ⟨a1, a2, h2⟩⟩
      intro x hx
      obtain ⟨c', hc', hx⟩ := List.mem_flatMap.1 hx
      have := (WK_facts hP h2).2.2.1 c' (by simpa using hc') x hx
      exact blt_le hb (this.1 k0 rfl)
    · rw [if_neg hb]
      have hb' := Bool.eq_false_iff.2 hb
      obtain ⟨c', l, u, e1, e2, e3, e4, e5, e6, e7⟩ := focus h2 ⟨fun l e => by cases e; exact hb', hk.2⟩
      refine ⟨c', l, u, by simpa using e1, e2, e3, ?_, by simpa using e5, fun c'' h' => ⟨h1, e6 c'' h'⟩, fun c1 m c2 a1 a2 => ⟨h1, e7 c1 m c2 a1 a2⟩⟩
      intro x hx
      rw [List.take_succ_cons, List.flatMap_cons] at hx
      rcases List.mem_append.1 hx with hx | hx
      · exact blt_le (((hP _ _ _ h1).1 x hx).2 k0 rfl) hb'
      · exact e4 x hx
end

end Go.Proofs.Ytjabcdfbncglnaa
namespace Go.Proofs.Ytjabcdfbncglnaa
open Go.RowKit Go.Proofs.YtjabcdfbncglnaaW.PrintWords Go.Proofs.YtjabcdfbncglnaaW.PrintLast Go.Proofs.YtjabcdfbncglnaaW.PrintMore
open PTreeRanks (S59 k59 z59)
set_option linter.unusedVariables false
set_option linter.unusedSimpArgs false

/-- The list with a key's number. -/
def insL (l : List S59) (k : ByteArray) (x : Int) : List S59 :=
  l.take (rank (keysOf l) k) ++ ⟨k, x⟩ :: l.drop (rank (keysOf l) k + if has (keysOf l) k then 1 else 0)

theorem keysOf_append (a b : List S59) : keysOf (a ++ b) = keysOf a ++ keysOf b := List.map_append
theorem keysOf_length (a : List S59) : (keysOf a).length = a.length := List.length_map _

theorem insL_mid {A M C : List S59} {k : ByteArray} (x : Int) (hA : ∀ y ∈ A, blt y.f0 k = true) (hC : ∀ y ∈ C, blt k y.f0 = true) : insL (A ++ M ++ C) k x = A ++ insL M k x ++ C := by
  have r1 : rank (keysOf A) k = A.length := by
    rw [← keysOf_length]
    exact rank_all fun y hy => by obtain ⟨z, hz, rfl⟩ := List.mem_map.1 hy; exact hA z hz
  have r2 : rank (keysOf C) k = 0 := rank_zero fun y hy => by obtain ⟨z, hz, rfl⟩ := List.mem_map.1 hy; exact blt_asymm (hC z hz)
  have r3 : rank (keysOf (A ++ M ++ C)) k = A.length + rank (keysOf M) k := by rw [keysOf_append, keysOf_append, rank_append, rank_append, r1, r2, Nat.add_zero]
  have r4 : has (keysOf (A ++ M ++ C)) k = has (keysOf M) k := by
    unfold has
    rw [r3, keysOf_append, keysOf_append, List.append_assoc, List.getElem?_append_right (by rw [keysOf_length]; omega), keysOf_length, Nat.add_sub_cancel_left]
    have hr := rank_le (keysOf M) k
    rcases Nat.lt_or_ge (rank (keysOf M) k) (keysOf M).length with h | h
    · rw [List.getElem?_append_left h]
    · rw [List.getElem?_append_right h, List.getElem?_eq_none h]
      have e : rank (keysOf M) k - (keysOf M).length = 0 := by omega
      rw [e]
      cases hC0 : C with
      | nil => rfl
      | cons c C' =>
        have := hC c (by rw [hC0]; exact List.mem_cons_self)
        have hne : c.f0 ≠ k := fun e => by rw [e, blt_irrefl] at this; cases this
        have h1 : decide (some c.f0 = some k) = false := decide_eq_false (by intro e; exact hne (by injection e))
        have h2 : decide ((none : Option ByteArray) = some k) = false := rfl
        exact h1.trans h2.symm
  have hle : rank (keysOf M) k + (if has (keysOf M) k = true then 1 else 0) ≤ M.length := by
    rw [← keysOf_length]
    split
    · exact has_lt ‹_›
    · exact rank_le _ _
  have hle2 : rank (keysOf M) k ≤ M.length := by omega
  unfold insL
  rw [r3, r4, Nat.add_assoc]
  generalize rank (keysOf M) k + (if has (keysOf M) k = true then 1 else 0) = q at *
  generalize rank (keysOf M) k = p at *
  rw [List.append_assoc A M C, List.take_length_add_append, List.drop_length_add_append, List.take_append_of_le_length hle2, List.drop_append_of_le_length hle]
  simp [List.append_assoc]

theorem toList_inner (d : Nat) (ks : List ByteArray) (cs : List (T d)) : toList (d + 1) ((ks, cs) : List ByteArray × List (T d)) = cs.flatMap (toList d) := rfl

theorem WF_zero {order m : Nat} {lo hi : Option ByteArray} {l : List S59} : WF order 0 m lo hi l ↔ SortedK (keysOf l) ∧ (∀ x ∈ keysOf l, inR lo hi x) ∧ l.length + 1 ≤ order ∧ m ≤ l.length := Iff.rfl
theorem WF_succ {order d m : Nat} {lo hi : Option ByteArray} {ks : List ByteArray} {cs : List (T d)} : WF order (d + 1) m lo hi ((ks, cs) : List ByteArray × List (T d)) ↔ WK (WF order d (minOf order d)) lo hi ks cs ∧ cs.length ≤ order ∧ m ≤ cs.length := Iff.rfl

theorem WF_P {order : Nat} (ho : 3 ≤ order) : ∀ (d : Nat) (lo hi : Option ByteArray) (t : T d), WF order d (minOf order d) lo hi t → (∀ x ∈ toList d t, inR lo hi x.f0) ∧ toList d t ≠ []
  | 0, lo, hi, l, h => by
    obtain ⟨l, rfl⟩ : ∃ l' : List S59, l' = l := ⟨l, rfl⟩
    obtain ⟨_, h2, _, h4⟩ := WF_zero.1 h
    refine ⟨fun x hx => h2 _ (List.mem_map_of_mem hx), fun e => ?_⟩
    have e : l = [] := e
    rw [e] at h4
    have : order / 2 ≤ 0 := h4
    omega
  | d + 1, lo, hi, (ks, cs), h => by
    obtain ⟨h1, h2, h3⟩ := WF_succ.1 h
    obtain ⟨_, _, a3, _⟩ := WK_facts (WF_P ho d) h1
    refine ⟨fun x hx => ?_, fun e => ?_⟩
    · obtain ⟨c, hc, hx⟩ := List.mem_flatMap.1 hx
      exact a3 c hc x hx
    · have hl : (order + 1) / 2 ≤ cs.length := h3
      cases cs with
      | nil => rw [List.length_nil] at hl; omega
      | cons c cs =>
        obtain ⟨l, u, hc⟩ := WK_mem h1 c List.mem_cons_self
        have := (WF_P ho d l u c hc).2
        have e2 : (c :: cs).flatMap (toList d) = [] := e
        rw [List.flatMap_cons, List.append_eq_nil_iff] at e2
        exact this e2.1

theorem keysOf_flatMap {α : Type} (f : α → List S59) (cs : List α) : keysOf (cs.flatMap f) = cs.flatMap fun c => keysOf (f c) := by
  unfold keysOf
  rw [List.map_flatMap]

theorem WK_sorted {α : Type} {P : Option ByteArray → Option ByteArray → α → Prop} {toL : α → List S59} (hP : ∀ lo hi c, P lo hi c → (∀ x ∈ toL c, inR lo hi x.f0) ∧ toL c ≠ []) (hS : ∀ lo hi c, P lo hi c → SortedK (keysOf (toL c))) :
    ∀ {lo hi : Option ByteArray} {ks : List ByteArray} {cs : List α}, WK P lo hi ks cs → SortedK (keysOf (cs.flatMap toL))
  | lo, hi, [], [c], h => by
    rw [List.flatMap_cons, List.flatMap_nil, List.append_nil]
    exact hS _ _ _ h
  | _, _, [], [], h => h.elim
  | _, _, [], _ :: _ :: _, h => h.elim
  | _, _, _ :: _, [], h => h.elim
  | lo, hi, k :: ks, c :: cs, ⟨h1, h2⟩ => by
    rw [List.flatMap_cons, keysOf_append]
    refine List.pairwise_append.2 ⟨hS _ _ _ h1, WK_sorted hP hS h2, ?_⟩
    intro a ha b hb
    obtain ⟨x, hx, rfl⟩ := List.mem_map.1 ha
    obtain ⟨y, hy, rfl⟩ := List.mem_map.1 hb
    obtain ⟨c', hc', hy⟩ := List.mem_flatMap.1 hy
    exact blt_le (((hP _ _ _ h1).1 x hx).2 k rfl) (((WK_facts hP h2).2.2.1 c' hc' y hy).1 k rfl)

theorem WF_sorted {order : Nat} (ho : 3 ≤ order) : ∀ {d m : Nat} {lo hi : Option ByteArray} {t : T d}, WF order d m lo hi t → SortedK (keysOf (toList d t))
  | 0, m, lo, hi, l, h => (WF_zero.1 h).1
  | d + 1, m, lo, hi, (ks, cs), h => WK_sorted (WF_P ho d) (fun _ _ _ h => WF_sorted ho h) (WF_succ.1 h).1

/-- What a put leaves. -/
def PutWF (order d m : Nat) (lo hi : Option ByteArray) (L : List S59) (s : T d × Option (ByteArray × T d)) : Prop :=
  match s with
  | (l, none) => WF order d m lo hi l ∧ toList d l = L
  | (l, some (mid, r)) => WF order d (minOf order d) lo (some mid) l ∧ WF order d (minOf order d) (some mid) hi r ∧ toList d l ++ toList d r = L

theorem sorted_take {l : List ByteArray} (h : SortedK l) (n : Nat) : SortedK (l.take n) := List.Pairwise.sublist (List.take_sublist n l) h
theorem sorted_drop {l : List ByteArray} (h : SortedK l) (n : Nat) : SortedK (l.drop n) := List.Pairwise.sublist (List.drop_sublist n l) h

theorem halveLeafT_WF {order m : Nat} (ho : 3 ≤ order) {lo hi : Option ByteArray} {l : List S59} (hs : SortedK (keysOf l)) (hr : ∀ x ∈ keysOf l, inR lo hi x) (hm : m ≤ l.length) (hl : l.length ≤ 2 * order - 2) :
    PutWF order 0 m lo hi l (halveLeafT order l) := by
  unfold halveLeafT
  by_cases h : l.length < order
  · rw [if_pos h]
    exact ⟨WF_zero.2 ⟨hs, hr, h, hm⟩, rfl⟩
  · rw [if_neg h]
    have hlt : l.length / 2 < l.length := by omega
    have hmid : (l.getD (l.length / 2) z59).f0 = (keysOf l)[l.length / 2]'(by rw [keysOf_length]; exact hlt) := by
      rw [List.getD_eq_getElem?_getD, List.getElem?_eq_getElem hlt]
      unfold keysOf
      rw [List.getElem_map]
      rfl
    have hsm : ∀ i (hi : i < (keysOf l).length), i < l.length / 2 → blt (keysOf l)[i] ((keysOf l)[l.length / 2]'(by rw [keysOf_length]; exact hlt)) = true := fun i hi hlt2 => List.pairwise_iff_getElem.1 hs i _ hi _ hlt2
    have hsg : ∀ i (hi : i < (keysOf l).length), l.length / 2 ≤ i → blt (keysOf l)[i] ((keysOf l)[l.length / 2]'(by rw [keysOf_length]; exact hlt)) = false := fun i hi hge => by
      rcases Nat.lt_or_ge (l.length / 2) i with h | h
      · exact blt_asymm (List.pairwise_iff_getElem.1 hs _ i _ hi h)
      · have : i = l.length / 2 := by omega
        subst this
        exact blt_irrefl _
    have et : keysOf (l.take (l.length / 2)) = (keysOf l).take (l.length / 2) := List.map_take
    have ed : keysOf (l.drop (l.length / 2)) = (keysOf l).drop (l.length / 2) := List.map_drop
    refine ⟨WF_zero.2 ⟨by rw [et]; exact sorted_take hs _, ?_, ?_, ?_⟩, WF_zero.2 ⟨by rw [ed]; exact sorted_drop hs _, ?_, ?_, ?_⟩, List.take_append_drop _ _⟩
    · intro x hx
      rw [et] at hx
      obtain ⟨i, hi, rfl⟩ := List.getElem_of_mem hx
      rw [List.getElem_take]
      rw [List.length_take] at hi
      exact ⟨(hr _ (List.getElem_mem _)).1, fun u e => by cases e; rw [hmid]; exact hsm i (by omega) (by omega)⟩
    · rw [List.length_take]; omega
    · rw [List.length_take]; show order / 2 ≤ _; omega
    · intro x hx
      rw [ed] at hx
      obtain ⟨i, hi, rfl⟩ := List.getElem_of_mem hx
      rw [List.getElem_drop]
      rw [List.length_drop] at hi
      exact ⟨fun u e => by cases e; rw [hmid]; exact hsg _ (by omega) (by omega), (hr _ (List.getElem_mem _)).2⟩
    · rw [List.length_drop]; omega
    · rw [List.length_drop]; show order / 2 ≤ _; omega

end Go.Proofs.Ytjabcdfbncglnaa
namespace Go.Proofs.Ytjabcdfbncglnaa
open Go.RowKit Go.Proofs.YtjabcdfbncglnaaW.PrintWords Go.Proofs.YtjabcdfbncglnaaW.PrintLast Go.Proofs.YtjabcdfbncglnaaW.PrintMore
open PTreeRanks (S59 k59 z59)
set_option linter.unusedVariables false
set_option linter.unusedSimpArgs false

theorem own_kept2 {w w1 : World} {base e n : Nat} {u : Option Nat} {v : Value} {xs : List Value} (h : w.ownsRow base e 1 v n xs) (hg : w.grownBy w1 u) (hu : ∀ g, u = some g → g < base) : w1.ownsRow base e 1 v n xs := by
  refine h.kept hg ?_
  cases hv : v.ownBlock with
  | none => exact .inl rfl
  | some k =>
    right
    intro e
    have := own_base h k hv
    have := hu k e.symm
    omega
theorem M_keep {α : Type} {d : Kd α} {w W : World} {r : Nat} {ok : Nat → Prop} {x : α} {cs : List Value} (h : d.M w 0 (fun k => ok k ∧ k ≠ r) x cs) (hg : w.grownBy W (some r)) : d.M W 0 (fun k => ok k ∧ k ≠ r) x cs :=
  Kd.M_step h (fun k hk hlt => hg.block k hlt (fun e => hk.2 (by injection e)))
/-- A row that is younger than W0 has been written. -/
theorem gb_own {W0 w1 w2 : World} {r : Nat} {u : Option Nat} (k : w1.grownBy w2 u) (h : W0.grownBy w1 (some r)) (hu : ∀ g, u = some g → W0.heap.size ≤ g) : W0.grownBy w2 (some r) :=
  ⟨k.os.trans h.os, k.tape.trans h.tape, k.output.trans h.output, Nat.le_trans h.size k.size, fun i hi hne => (k.block i (Nat.lt_of_lt_of_le hi h.size) (fun e => by have := hu i e.symm; omega)).trans (h.block i hi hne)⟩

set_option maxRecDepth 100000 in
set_option maxHeartbeats 16000000 in
theorem put_inner {order bt d : Nat} {k : ByteArray} {x : Int} (ho3 : 3 ≤ order) (ho4 : order ≤ 900) (ih : PutOk order bt k x d) : PutOk order bt k x (d + 1) := by
  intro t v w ok h0 hM hS hsz hok
  obtain ⟨ks, cs, rfl⟩ : ∃ (ks : List ByteArray) (cs : List (T d)), ((ks, cs) : List ByteArray × List (T d)) = t := ⟨_, _, rfl⟩
  have hM' := M_off hM
  obtain ⟨b, kv, cv, rfl, hb, hh, hk, hc⟩ := inner_M.1 hM'
  obtain ⟨hs1, hs2, hs3, hs4⟩ := Shape_inner hS
  obtain ⟨hko, hkb⟩ := SRow_own hk
  obtain ⟨vs, hvo, hve, hvb⟩ := CRow_own hc
  obtain ⟨A, c, rfl, hkc, hkc2, _, hkA⟩ := own_cells hko
  obtain ⟨A', c', rfl, hvc, hvc2, hvl, hvA⟩ := own_cells hvo
  obtain ⟨_, _, e1, _, hkC⟩ := FRow_reads hk
  cases e1
  have hix := kidIx_le ks k
  have hlt : kidIx ks k < cs.length := by omega
  obtain ⟨ad', rfl, hvA1⟩ := hvA (by omega)
  rw [putT_inner order k x hlt]
  have hsize := putT_size order d cs[kidIx ks k] k x
  have hsset := fun c' => sizes_set cs (kidIx ks k) c' hlt
  have hszc : size d cs[kidIx ks k] < 1099511627776 := by
    have := sizes_take_le cs _ hlt
    rw [size_inner] at hsz
    omega
  have hone : ∀ u ∈ vs, u.oneCell' = true := fun u hu => by
    obtain ⟨t, _, ht⟩ := hve.mem hu
    exact NK_one ((NK d).K_of_M ht)
  obtain ⟨vi, hvi, hMi⟩ := hve.get _ hlt
  have hcell := hvA1 _ _ hvi
  have hSi := hs4 _ (List.getElem_mem hlt)
  rw [size_inner] at hsz
  have HP : Aside0 (∀ W, Below w.heap.size w W → w.heap.size < W.heap.size → Calls Try.prog 48 #[.pointer (some ⟨bt, 0, none⟩), vi, .string k, .int .i64 x] W (SplitPost d (putT order d cs[kidIx ks k] k x) (fun k => ok k ∧ k ≠ w.heap.size) W)) :=
    ⟨fun W hW hs => ih _ _ W _ (pw_cell_below hW h0) (M_below' hMi hW) hSi hszc (fun k h => ⟨hok k (by omega), by omega⟩)⟩
  have hkid : Aside0 (∀ W, Below w.heap.size w W → Calls Try.prog 34 #[.pointer (some ⟨b, 0, none⟩), .string k] W fun e w' => e = .returned (.int .i64 (kidIx ks k : Nat)) ∧ Drawn0 W w') :=
    ⟨fun W hW => kid_calls b c A ks k W (Kd.C_below hkC hW) hkc (pw_cell_below hW ((blk_cell hh 0).trans rfl)) hs1 hs3⟩
  have HOK : Aside0 (∀ k, w.heap.size < k → ok k ∧ k ≠ w.heap.size) := ⟨fun k h => ⟨hok k (Nat.le_of_lt h), by omega⟩⟩
  have x0 : w.cell? ⟨b, 0, none⟩ = some (.slice A ks.length c) := (blk_cell hh 0).trans rfl
  have x1 : w.cell? ⟨b, 1, none⟩ = some (.slice (some ad') cs.length c') := (blk_cell hh 1).trans rfl
  have hi9 : kidIx ks k ≤ 900 := by omega
  have hlb : b < w.heap.size := blk_lt hh
  have hsz2 : ∀ s : T d × Option (ByteArray × T d), sizeS s ≤ size d cs[kidIx ks k] + 1 → sizes (cs.set (kidIx ks k) s.1) + (match s.2 with | none => 0 | some (_, r) => size d r) ≤ 1099511627776 := fun s h => by
    have h1 := hsset s.1
    have h2 : size d s.1 + (match s.2 with | none => 0 | some (_, r) => size d r) ≤ size d cs[kidIx ks k] + 1 := h
    have h3 := sizes_take_le cs _ hlt
    omega
  have hsz3 := hsz2 _ hsize
  have HK := Aside0.mk hk
  have HKA := Aside0.mk hkA
  have HVA := Aside0.mk hvA1
  have HVE := Aside0.mk hve
  have HONE := Aside0.mk hone
  have HVL := Aside0.mk hvl
  have HL := Aside0.mk hs2
  have HB1 : Aside0 (Below w.heap.size w (w.alloc (.cells #[.nilIface, .string ⟨#[]⟩, .nilIface] 107))) := ⟨(Below.refl _ w).alloc (Nat.le_refl _) _⟩
  have HR : Aside0 (ResBox w.heap.size (w.alloc (.cells #[.nilIface, .string ⟨#[]⟩, .nilIface] 107))) := ⟨heap_alloc_new w _⟩
  have hrs : w.heap.size < (w.alloc (.cells #[.nilIface, .string ⟨#[]⟩, .nilIface] 107)).heap.size := by simp
  have k3 := ta_inner
  have k4 := ta_inner_no
  have H0 := Aside0.mk h0
  have hcl : cs.length ≤ 901 := by omega
  have HC := Aside0.mk hcell
  clear hM hM' hk hc hh hS hs1 hs2 hs4 hko hvo hkA hvA hvA1 hve hone hvl hkC hix hsize hsset hsz hszc hMi hSi hok h0 hkb hvb hvi hsz2 hcell ih
  generalize kidIx ks k = i at *
  generalize putT order d cs[i] k x = s at *
  obtain ⟨s1, _ | ⟨mid, s2⟩⟩ := s
  · go_enter Try.func48, Try.ntmps48
    go_wp2_with fail
    refine (hkid.out _ HB1.out).mono ?_
    rintro e w' ⟨rfl, ⟨nq, rfl⟩⟩
    have hcell2 := pw_cell_below (pw_below_drewN HB1.out nq) HC.out
    go_wp2_with fail
    refine (HP.out _ (pw_below_drewN HB1.out nq) hrs).mono ?_
    rintro e w2 ⟨hb2, lv, rfl, hMl⟩
    obtain ⟨ty, lb, rfl⟩ := NK_form ((NK d).K_of_M hMl)
    have hHB2 := below_then (pw_below_drewN HB1.out nq) (Nat.le_of_lt hrs) hb2
    go_wp2
    have hH3 : (w2.alloc (.cells #[.iface ty (.pointer (some ⟨lb, 0, none⟩)), .string ⟨#[]⟩, .nilIface] 107)).heap[w2.heap.size]? = some (.cells #[.iface ty (.pointer (some ⟨lb, 0, none⟩)), .string ⟨#[]⟩, .nilIface] 107 (0, 0)) := heap_alloc_new w2 _
    have hB3 : Below w.heap.size w (w2.alloc (.cells #[.iface ty (.pointer (some ⟨lb, 0, none⟩)), .string ⟨#[]⟩, .nilIface] 107)) := hHB2.alloc hHB2.size _
    have hM3 := M_below' hMl ((Below.refl _ w2).alloc (Nat.le_refl _) (.cells #[.iface ty (.pointer (some ⟨lb, 0, none⟩)), .string ⟨#[]⟩, .nilIface] 107))
    have hrs2 : w.heap.size < w2.heap.size := Nat.lt_of_lt_of_le hrs hb2.size
    have hR3 : ResBox w.heap.size (w2.alloc (.cells #[.iface ty (.pointer (some ⟨lb, 0, none⟩)), .string ⟨#[]⟩, .nilIface] 107)) := (Below.heap_alloc _ _ _ hrs2).trans ((hb2.block _ hrs).trans HR.out)
    have hrs3 : w.heap.size < (w2.alloc (.cells #[.iface ty (.pointer (some ⟨lb, 0, none⟩)), .string ⟨#[]⟩, .nilIface] 107)).heap.size := by simp; omega
    generalize w2.alloc (.cells #[.iface ty (.pointer (some ⟨lb, 0, none⟩)), .string ⟨#[]⟩, .nilIface] 107) = W3 at *
    generalize w2.heap.size = sb at *
    have HB3 := Aside0.mk hB3
    have HR3 := Aside0.mk hR3
    have HM3 := Aside0.mk hM3
    have HH3 := Aside0.mk hH3
    have y1 := pw_cell_below hB3 x1
    have y0 := pw_cell_below hB3 x0
    have z0 : W3.cell? ⟨sb, 0, none⟩ = some (.iface ty (.pointer (some ⟨lb, 0, none⟩))) := (blk_cell hH3 0).trans rfl
    have z2 : W3.cell? ⟨sb, 2, none⟩ = some .nilIface := (blk_cell hH3 2).trans rfl
    have HCH : Aside0 (∀ W, Below w.heap.size w W → Calls Try.prog 61 #[.slice (some ad') cs.length c', .int .i64 i, .iface ty (.pointer (some ⟨lb, 0, none⟩))] W fun e w' => ∃ v', e = .returned v' ∧ w'.ownsRow W.heap.size 69 1 v' cs.length (vs.set i (.iface ty (.pointer (some ⟨lb, 0, none⟩)))) ∧ Below W.heap.size W w') :=
      ⟨fun W hW => changed_node _ _ _ i vs ty lb W (fun _ => ⟨_, rfl, cells_later HVA.out hW⟩) HVL.out (by omega) HONE.out hlt⟩
    have HSK : Aside0 (∀ W, Below W3.heap.size W3 W → W.cell? ⟨b, 1, none⟩ = some (.slice (some ad') cs.length c') ∧ W.cell? ⟨sb, 0, none⟩ = some (.iface ty (.pointer (some ⟨lb, 0, none⟩))) ∧ Below W3.heap.size W3 W) :=
      ⟨fun W hW => ⟨pw_cell_below hW y1, pw_cell_below hW z0, hW⟩⟩
    have HY0 := Aside0.mk y0
    have HZ2 := Aside0.mk z2
    clear x0 x1 y0 y1 z0 z2 hH3 hB3 hM3 hR3 hb2 hHB2 hMl hcell2 HB1 HR hrs HP hkid HC HKA
    go_region_held3 (fun w' => w'.cell? ⟨b, 1, none⟩ = some (.slice (some ad') cs.length c') ∧ w'.cell? ⟨sb, 0, none⟩ = some (.iface ty (.pointer (some ⟨lb, 0, none⟩))) ∧ Below W3.heap.size W3 w') (exact HSK.out _ (by repeat (first | assumption | exact Below.refl _ _ | refine below_drew ?_ | refine below_mk ?_ _))) (first | (go_at_call 61; refine (HCH.out _ (below_go (And.right (And.right (by assumption))) HB3.out)).mono ?_; rintro e w4 ⟨v1, rfl, ho1, hb1⟩; obtain ⟨A1, c1, rfl, _, hc1m, _, _⟩ := own_cells ho1; have hBn := below_go hb1 (And.right (And.right (by assumption))); have HO := Aside0.mk ho1; clear ho1 hb1))
    have hlb4 : b < w4.heap.size := Nat.lt_of_lt_of_le (World.block_lt_of_cell? _ _ HY0.out) hBn.size
    have y04 := pw_cell_below hBn HY0.out
    have z24 := pw_cell_below hBn HZ2.out
    have hrs4 : w.heap.size < w4.heap.size := Nat.lt_of_lt_of_le hrs3 hBn.size
    have HN : Aside0 (Calls Try.prog 49 #[.slice A ks.length c, .slice A1 cs.length c1] w4 (InnerPost d ks (cs.set i s1) (fun k => ok k ∧ k ≠ w.heap.size) w4)) :=
      ⟨newInner_calls (FRow_below HK.out (below_go hBn HB3.out)) (CRow_mk HO.out ((Elems_below HVE.out (below_go hBn HB3.out)).set i (M_below' HM3.out hBn)) (fun k h => HOK.out k (Nat.lt_of_lt_of_le hrs3 h))) (fun k h => HOK.out k (by omega)) (by simpa using hsz3)⟩
    have HR4 : Aside0 (ResBox w.heap.size w4) := ⟨(hBn.block _ hrs3).trans HR3.out⟩
    have HBn := Aside0.mk (below_go hBn HB3.out)
    clear hBn HCH HSK HO
    go_wp2_with fail
    refine HN.out.mono ?_
    rintro e w5 ⟨nb, rfl, hnb, hM5, hb5⟩
    obtain ⟨⟨q0, q1, q2⟩, p0, p1, p2⟩ := ResBox.cells ((hb5.block _ hrs4).trans HR4.out)
    have hrs5 : w.heap.size < w5.heap.size := Nat.lt_of_lt_of_le hrs4 hb5.size
    have HM5 := Aside0.mk hM5
    have HB5 := Aside0.mk hb5
    clear hM5 hb5
    go_wp2
    refine bodyPost_ret (v := .agg #[.iface 78 (.pointer (some ⟨nb, 0, none⟩)), .string ⟨#[]⟩, .nilIface]) (by simp [results, Try.results48, go_sem, q0, q1, q2]) rfl ?_
    exact ⟨gb_old (below_go HB5.out HBn.out) (gb_split _ _ _), _, rfl, M_on HM5.out (gb_split _ _ _)⟩
  · rw [show putUp order ks cs i (s1, some (mid, s2)) = halveT order (ks.take i ++ mid :: ks.drop i) ((cs.set i s1).take (i + 1) ++ s2 :: (cs.set i s1).drop (i + 1)) from rfl]
    generalize hsp : halveT order (ks.take i ++ mid :: ks.drop i) ((cs.set i s1).take (i + 1) ++ s2 :: (cs.set i s1).drop (i + 1)) = sp at *
    have HSP := Aside0.mk hsp
    clear hsp
    go_enter Try.func48, Try.ntmps48
    go_wp2_with fail
    refine (hkid.out _ HB1.out).mono ?_
    rintro e w' ⟨rfl, ⟨nq, rfl⟩⟩
    have hcell2 := pw_cell_below (pw_below_drewN HB1.out nq) HC.out
    go_wp2_with fail
    refine (HP.out _ (pw_below_drewN HB1.out nq) hrs).mono ?_
    rintro e w2 ⟨hb2, lv, rv, rfl, hMl, hMr⟩
    obtain ⟨ty, lb, rfl⟩ := NK_form ((NK d).K_of_M hMl)
    obtain ⟨ty2, lb2, rfl⟩ := NK_form ((NK d).K_of_M hMr)
    have hHB2 := below_then (pw_below_drewN HB1.out nq) (Nat.le_of_lt hrs) hb2
    go_wp2
    have hH3 : (w2.alloc (.cells #[.iface ty (.pointer (some ⟨lb, 0, none⟩)), .string mid, .iface ty2 (.pointer (some ⟨lb2, 0, none⟩))] 107)).heap[w2.heap.size]? = some (.cells #[.iface ty (.pointer (some ⟨lb, 0, none⟩)), .string mid, .iface ty2 (.pointer (some ⟨lb2, 0, none⟩))] 107 (0, 0)) := heap_alloc_new w2 _
    have hB3 : Below w.heap.size w (w2.alloc (.cells #[.iface ty (.pointer (some ⟨lb, 0, none⟩)), .string mid, .iface ty2 (.pointer (some ⟨lb2, 0, none⟩))] 107)) := hHB2.alloc hHB2.size _
    have hM3 := M_below' hMl ((Below.refl _ w2).alloc (Nat.le_refl _) (.cells #[.iface ty (.pointer (some ⟨lb, 0, none⟩)), .string mid, .iface ty2 (.pointer (some ⟨lb2, 0, none⟩))] 107))
    have hMR3 := M_below' hMr ((Below.refl _ w2).alloc (Nat.le_refl _) (.cells #[.iface ty (.pointer (some ⟨lb, 0, none⟩)), .string mid, .iface ty2 (.pointer (some ⟨lb2, 0, none⟩))] 107))
    have hrs2 : w.heap.size < w2.heap.size := Nat.lt_of_lt_of_le hrs hb2.size
    have hR3 : ResBox w.heap.size (w2.alloc (.cells #[.iface ty (.pointer (some ⟨lb, 0, none⟩)), .string mid, .iface ty2 (.pointer (some ⟨lb2, 0, none⟩))] 107)) := (Below.heap_alloc _ _ _ hrs2).trans ((hb2.block _ hrs).trans HR.out)
    have hrs3 : w.heap.size < (w2.alloc (.cells #[.iface ty (.pointer (some ⟨lb, 0, none⟩)), .string mid, .iface ty2 (.pointer (some ⟨lb2, 0, none⟩))] 107)).heap.size := by simp; omega
    generalize w2.alloc (.cells #[.iface ty (.pointer (some ⟨lb, 0, none⟩)), .string mid, .iface ty2 (.pointer (some ⟨lb2, 0, none⟩))] 107) = W3 at *
    generalize w2.heap.size = sb at *
    have HB3 := Aside0.mk hB3
    have HR3 := Aside0.mk hR3
    have HM3 := Aside0.mk hM3
    have HMR3 := Aside0.mk hMR3
    have HH3 := Aside0.mk hH3
    have y1 := pw_cell_below hB3 x1
    have y0 := pw_cell_below hB3 x0
    have z0 : W3.cell? ⟨sb, 0, none⟩ = some (.iface ty (.pointer (some ⟨lb, 0, none⟩))) := (blk_cell hH3 0).trans rfl
    have z1 : W3.cell? ⟨sb, 1, none⟩ = some (.string mid) := (blk_cell hH3 1).trans rfl
    have z2 : W3.cell? ⟨sb, 2, none⟩ = some (.iface ty2 (.pointer (some ⟨lb2, 0, none⟩))) := (blk_cell hH3 2).trans rfl
    have HCH : Aside0 (∀ W, Below w.heap.size w W → Calls Try.prog 61 #[.slice (some ad') cs.length c', .int .i64 i, .iface ty (.pointer (some ⟨lb, 0, none⟩))] W fun e w' => ∃ v', e = .returned v' ∧ w'.ownsRow W.heap.size 69 1 v' cs.length (vs.set i (.iface ty (.pointer (some ⟨lb, 0, none⟩)))) ∧ Below W.heap.size W w') :=
      ⟨fun W hW => changed_node _ _ _ i vs ty lb W (fun _ => ⟨_, rfl, cells_later HVA.out hW⟩) HVL.out (by omega) HONE.out hlt⟩
    have HSK : Aside0 (∀ W, Below W3.heap.size W3 W → W.cell? ⟨b, 1, none⟩ = some (.slice (some ad') cs.length c') ∧ W.cell? ⟨sb, 0, none⟩ = some (.iface ty (.pointer (some ⟨lb, 0, none⟩))) ∧ Below W3.heap.size W3 W) :=
      ⟨fun W hW => ⟨pw_cell_below hW y1, pw_cell_below hW z0, hW⟩⟩
    have HSB : Aside0 (w.heap.size < sb) := ⟨hrs2⟩
    have hlb3 := World.block_lt_of_cell? _ _ y0
    have HSK2 : Aside0 (∀ W, W3.grownBy W (some w.heap.size) → W.cell? ⟨b, 0, none⟩ = some (.slice A ks.length c) ∧ W.cell? ⟨sb, 1, none⟩ = some (.string mid) ∧ W.cell? ⟨sb, 2, none⟩ = some (.iface ty2 (.pointer (some ⟨lb2, 0, none⟩))) ∧ W3.grownBy W (some w.heap.size)) :=
      ⟨fun W hW => ⟨hW.cell y0 (fun e => by injection e with e; exact absurd e (Nat.ne_of_lt hlb)), hW.cell z1 (fun e => by injection e with e; have : sb = w.heap.size := e; omega), hW.cell z2 (fun e => by injection e with e; have : sb = w.heap.size := e; omega), hW⟩⟩
    have HWI : Aside0 (∀ W, Below w.heap.size w W → Calls Try.prog 59 #[.slice A ks.length c, .int .i64 i, .string mid] W fun e w' => ∃ v', e = .returned v' ∧ w'.ownsRow W.heap.size 9 1 v' (ks.length + 1) ((ks.take i ++ mid :: ks.drop i).map .string) ∧ Below W.heap.size W w') :=
      ⟨fun W hW => by
        rw [List.map_append, List.map_cons, List.map_take, List.map_drop]
        refine with_str A ks.length c i _ mid W (fun h => ?_) (by simp) (by omega) (fun u hu => by obtain ⟨y, _, rfl⟩ := List.mem_map.1 hu; rfl) (by have := HL.out; omega)
        obtain ⟨ad, e, hc⟩ := HKA.out h
        exact ⟨ad, e, cells_later hc hW⟩⟩
    have HZ2 := Aside0.mk z2
    have HY0 := Aside0.mk y0
    clear x0 x1 y0 y1 z0 z1 hH3 hB3 hM3 hMR3 hR3 hb2 hHB2 hMl hMr hcell2 HB1 HR hrs HP hkid HC HKA
    go_region_held3 (fun w' => w'.cell? ⟨b, 1, none⟩ = some (.slice (some ad') cs.length c') ∧ w'.cell? ⟨sb, 0, none⟩ = some (.iface ty (.pointer (some ⟨lb, 0, none⟩))) ∧ Below W3.heap.size W3 w') (exact HSK.out _ (by repeat (first | assumption | exact Below.refl _ _ | refine below_drew ?_ | refine below_mk ?_ _))) (first | (go_at_call 61; refine (HCH.out _ (below_go (And.right (And.right (by assumption))) HB3.out)).mono ?_; rintro e w4 ⟨v1, rfl, ho1, hb1⟩; obtain ⟨A1, c1, rfl, _, hc1m, _, _⟩ := own_cells ho1; have hBn := below_go hb1 (And.right (And.right (by assumption))); have HO := Aside0.mk ho1; clear ho1 hb1))
    have z24 := pw_cell_below hBn HZ2.out
    have HBn := Aside0.mk hBn
    have hrs4 : w.heap.size < w4.heap.size := Nat.lt_of_lt_of_le hrs3 hBn.size
    have HR4 : Aside0 (ResBox w.heap.size w4) := ⟨(hBn.block _ hrs3).trans HR3.out⟩
    have hgr4 : W3.grownBy w4 (some w.heap.size) := gb_below hBn (grownBy_refl _ _)
    clear hBn HCH HSK z24
    have z24 := pw_cell_below HBn.out HZ2.out
    have y04 := pw_cell_below HBn.out HY0.out
    have hgd2 : ∀ g, (Value.slice A1 cs.length c1).ownBlock = some g → W3.heap.size ≤ g ∧ g < w4.heap.size := fun g e => ⟨own_base HO.out g e, own_lt HO.out g e⟩
    have HGD := Aside0.mk hgd2
    have hlen2 : (vs.set i (.iface ty (.pointer (some ⟨lb, 0, none⟩)))).length = cs.length := by rw [List.length_set]; exact HVL.out
    have hone2 : ∀ u ∈ vs.set i (.iface ty (.pointer (some ⟨lb, 0, none⟩))), u.oneCell' = true := fun u hu => by
      rcases List.mem_or_eq_of_mem_set hu with h | rfl
      · exact HONE.out u h
      · rfl
    have HINS : Aside0 (∀ (W : World) (vb : Nat), W.ownsRow W3.heap.size 69 1 (.slice A1 cs.length c1) cs.length (vs.set i (.iface ty (.pointer (some ⟨lb, 0, none⟩)))) → W3.heap.size ≤ W.heap.size → W.heap[vb]? = some (.cells #[.iface ty2 (.pointer (some ⟨lb2, 0, none⟩))] 69 (0, 0)) → (Value.slice A1 cs.length c1).ownBlock ≠ some vb →
        Calls Try.prog 63 #[.slice A1 cs.length c1, .int .i64 ((i : Int) + 1), .slice (some ⟨vb, 0, none⟩) 1 1] W fun e w' => ∃ v', e = .returned v' ∧ w'.ownsRow W3.heap.size 69 1 v' (cs.length + 1) ((vs.set i (.iface ty (.pointer (some ⟨lb, 0, none⟩)))).take (i + 1) ++ .iface ty2 (.pointer (some ⟨lb2, 0, none⟩)) :: (vs.set i (.iface ty (.pointer (some ⟨lb, 0, none⟩)))).drop (i + 1)) ∧ W.grownBy w' (Value.slice A1 cs.length c1).ownBlock) :=
      ⟨fun W vb h1 h2 h3 h4 => insert_node W3.heap.size cs.length (i + 1) _ vb _ _ W h1 h2 (by omega) (by omega) hone2 h3 h4 rfl⟩
    have HHV : Aside0 (∀ (W : World) (b1 n1 n2 : Nat) (v1 v2 : Value), W3.grownBy W (some w.heap.size) → w.heap.size < b1 → W.ownsRow b1 9 1 v1 n1 ((ks.take i ++ mid :: ks.drop i).map .string) →
        W.ownsRow W3.heap.size 69 1 v2 n2 ((vs.set i (.iface ty (.pointer (some ⟨lb, 0, none⟩)))).take (i + 1) ++ .iface ty2 (.pointer (some ⟨lb2, 0, none⟩)) :: (vs.set i (.iface ty (.pointer (some ⟨lb, 0, none⟩)))).drop (i + 1)) →
        Calls Try.prog 62 #[.pointer (some ⟨bt, 0, none⟩), v1, v2] W (SplitPost (d + 1) sp (fun k => ok k ∧ k ≠ w.heap.size) W)) :=
      ⟨fun W b1 n1 n2 v1 v2 hg hb1 h1 h2 => by
        rw [← HSP.out]
        exact halve_calls (pw_cell_below (gb_old HB3.out hg) H0.out) (SRow_mk h1 (fun k h => HOK.out k (by omega)))
          (CRow_mk h2 (((Elems_below HVE.out (gb_old HB3.out hg)).set i (M_keep HM3.out hg)).ins (i + 1) (M_keep HMR3.out hg)) (fun k h => HOK.out k (by omega))) (fun k h => HOK.out k (by have := hg.size; omega))
          (by rw [sizes_ins]; exact hsz3) (by omega)
          (by have := HL.out; simp only [List.length_append, List.length_cons, List.length_take, List.length_drop, List.length_set]; omega)
          (by have := HL.out; simp only [List.length_append, List.length_cons, List.length_take, List.length_drop, List.length_set]; omega)⟩
    have hw1 : IntKind.i64.wrap ((i : Int) + 1) = (i : Int) + 1 := by rw [IntKind.wrap_i64]; omega
    have HO3 : Aside0 (w4.ownsRow W3.heap.size 69 1 (.slice A1 cs.length c1) cs.length (vs.set i (.iface ty (.pointer (some ⟨lb, 0, none⟩))))) := ⟨HO.out⟩
    have hh34 : W3.heap.size ≤ w4.heap.size := HBn.out.size
    clear hgd2 hlen2 HO y04 z24 hone2
    have z24 := pw_cell_below HBn.out HZ2.out
    clear HSP
    go_wp2
    obtain ⟨t1, _ | ⟨mid2, t2⟩⟩ := sp
    · go_region_held3 (fun w' => w'.cell? ⟨b, 0, none⟩ = some (.slice A ks.length c) ∧ w'.cell? ⟨sb, 1, none⟩ = some (.string mid) ∧ w'.cell? ⟨sb, 2, none⟩ = some (.iface ty2 (.pointer (some ⟨lb2, 0, none⟩))) ∧ W3.grownBy w' (some w.heap.size)) (exact HSK2.out _ (by repeat (first | assumption | exact grownBy_refl _ _ | refine grownBy_drew ?_ | refine gb_alloc ?_ _ | refine gb_set ?_ _ _))) (first | (go_at_call 59; refine (HWI.out _ (gb_old HB3.out (And.right (And.right (And.right (by assumption)))))).mono ?_; rintro e w6 ⟨v2, rfl, ho1, hb1⟩; obtain ⟨A2, c2, rfl, _, hc2m, _, _⟩ := own_cells ho1; have hBn6 := gb_below hb1 (And.right (And.right (And.right (by assumption)))); have HOk := Aside0.mk ho1; have hh46 : w4.heap.size ≤ w6.heap.size := Nat.le_trans (by simp) hb1.size; (first | (have HO6 := Aside0.mk (pw_own_below (World.ownsRow.drew HO3.out) hb1); have HR6 : Aside0 (ResBox w.heap.size w6) := ⟨(hb1.block _ hrs4).trans HR4.out⟩) | (have HO6 := Aside0.mk (pw_own_below (World.ownsRow.drew (HO3.out.alloc (.cells #[.iface ty2 (.pointer (some ⟨lb2, 0, none⟩))] 69))) hb1); have HR6 : Aside0 (ResBox w.heap.size w6) := ⟨(hb1.block _ (Nat.lt_of_lt_of_le hrs4 (by simp))).trans ((Below.heap_alloc w4 (.cells #[.iface ty2 (.pointer (some ⟨lb2, 0, none⟩))] 69) _ hrs4).trans HR4.out)⟩; have HVB := Aside0.mk ((hb1.block w4.heap.size (by simp)).trans (heap_alloc_new w4 (.cells #[.iface ty2 (.pointer (some ⟨lb2, 0, none⟩))] 69))))); have hrs6 : w.heap.size < w6.heap.size := Nat.lt_of_lt_of_le hrs4 hh46; have hh36 : W3.heap.size ≤ w6.heap.size := Nat.le_trans hh34 hh46; clear ho1 hb1) | (go_at_call 63; refine (HINS.out _ _ (by first | exact HO6.out | exact HO6.out.alloc _) (by first | exact hh36 | exact Nat.le_trans hh36 (by simp)) (by first | exact HVB.out | exact heap_alloc_new _ _) (by first | exact fun e => Nat.lt_irrefl _ (own_lt HO6.out _ e) | exact fun e => Nat.lt_irrefl _ (own_lt HO3.out _ e))).mono ?_; rintro e w7 ⟨v3, rfl, ho1, hg1⟩; obtain ⟨A3, c3, rfl, _, hc3m, _, _⟩ := own_cells ho1; have hBn7 := gb_own hg1 (And.right (And.right (And.right (by assumption)))) (fun g e => (HGD.out g e).1); (first | (have HOk7 := Aside0.mk (own_kept2 HOk.out hg1 (fun g e => Nat.lt_of_lt_of_le (HGD.out g e).2 (by simp)))) | (have HOk7 := Aside0.mk (own_kept2 (HOk.out.alloc _) hg1 (fun g e => Nat.lt_of_lt_of_le (HGD.out g e).2 (by simp))))); have HO7 := Aside0.mk ho1; (first | (have HR7 : Aside0 (ResBox w.heap.size w7) := ⟨(hg1.block _ hrs6 (fun e => by have := (HGD.out _ e.symm).1; omega)).trans HR6.out⟩) | (have HR7 : Aside0 (ResBox w.heap.size w7) := ⟨(hg1.block _ (Nat.lt_of_lt_of_le hrs6 (by simp)) (fun e => by have := (HGD.out _ e.symm).1; omega)).trans ((Below.heap_alloc _ _ _ hrs6).trans HR6.out)⟩)); have hrs7 : w.heap.size < w7.heap.size := Nat.lt_of_lt_of_le hrs6 (Nat.le_trans (by simp) hg1.size); clear ho1 hg1) | (go_at_call 62; refine (HHV.out _ _ _ _ _ _ (And.right (And.right (And.right (by assumption)))) (Nat.lt_of_lt_of_le hrs4 (by simp)) HOk7.out HO7.out).mono ?_; rintro e w8 hP; obtain ⟨ty8, b8, rfl, hb8, hfin⟩ := split_none hP (gb_old HB3.out hBn7); have hBn8 := gb_below hb8 hBn7; obtain ⟨⟨q0, q1, q2⟩, p0, p1, p2⟩ := ResBox.cells ((hb8.block _ hrs7).trans HR7.out); have hrs8 : w.heap.size < w8.heap.size := Nat.lt_of_lt_of_le hrs7 hb8.size; have HFIN := Aside0.mk hfin; clear hfin hP hb8))
      all_goals
        go_wp2
        refine bodyPost_ret (v := .agg #[.iface ty8 (.pointer (some ⟨b8, 0, none⟩)), .string ⟨#[]⟩, .nilIface]) (by simp [results, Try.results48, go_sem, q0, q1, q2]) rfl ?_
        exact HFIN.out
    · go_region_held3 (fun w' => w'.cell? ⟨b, 0, none⟩ = some (.slice A ks.length c) ∧ w'.cell? ⟨sb, 1, none⟩ = some (.string mid) ∧ w'.cell? ⟨sb, 2, none⟩ = some (.iface ty2 (.pointer (some ⟨lb2, 0, none⟩))) ∧ W3.grownBy w' (some w.heap.size)) (exact HSK2.out _ (by repeat (first | assumption | exact grownBy_refl _ _ | refine grownBy_drew ?_ | refine gb_alloc ?_ _ | refine gb_set ?_ _ _))) (first | (go_at_call 59; refine (HWI.out _ (gb_old HB3.out (And.right (And.right (And.right (by assumption)))))).mono ?_; rintro e w6 ⟨v2, rfl, ho1, hb1⟩; obtain ⟨A2, c2, rfl, _, hc2m, _, _⟩ := own_cells ho1; have hBn6 := gb_below hb1 (And.right (And.right (And.right (by assumption)))); have HOk := Aside0.mk ho1; have hh46 : w4.heap.size ≤ w6.heap.size := Nat.le_trans (by simp) hb1.size; (first | (have HO6 := Aside0.mk (pw_own_below (World.ownsRow.drew HO3.out) hb1); have HR6 : Aside0 (ResBox w.heap.size w6) := ⟨(hb1.block _ hrs4).trans HR4.out⟩) | (have HO6 := Aside0.mk (pw_own_below (World.ownsRow.drew (HO3.out.alloc (.cells #[.iface ty2 (.pointer (some ⟨lb2, 0, none⟩))] 69))) hb1); have HR6 : Aside0 (ResBox w.heap.size w6) := ⟨(hb1.block _ (Nat.lt_of_lt_of_le hrs4 (by simp))).trans ((Below.heap_alloc w4 (.cells #[.iface ty2 (.pointer (some ⟨lb2, 0, none⟩))] 69) _ hrs4).trans HR4.out)⟩; have HVB := Aside0.mk ((hb1.block w4.heap.size (by simp)).trans (heap_alloc_new w4 (.cells #[.iface ty2 (.pointer (some ⟨lb2, 0, none⟩))] 69))))); have hrs6 : w.heap.size < w6.heap.size := Nat.lt_of_lt_of_le hrs4 hh46; have hh36 : W3.heap.size ≤ w6.heap.size := Nat.le_trans hh34 hh46; clear ho1 hb1) | (go_at_call 63; refine (HINS.out _ _ (by first | exact HO6.out | exact HO6.out.alloc _) (by first | exact hh36 | exact Nat.le_trans hh36 (by simp)) (by first | exact HVB.out | exact heap_alloc_new _ _) (by first | exact fun e => Nat.lt_irrefl _ (own_lt HO6.out _ e) | exact fun e => Nat.lt_irrefl _ (own_lt HO3.out _ e))).mono ?_; rintro e w7 ⟨v3, rfl, ho1, hg1⟩; obtain ⟨A3, c3, rfl, _, hc3m, _, _⟩ := own_cells ho1; have hBn7 := gb_own hg1 (And.right (And.right (And.right (by assumption)))) (fun g e => (HGD.out g e).1); (first | (have HOk7 := Aside0.mk (own_kept2 HOk.out hg1 (fun g e => Nat.lt_of_lt_of_le (HGD.out g e).2 (by simp)))) | (have HOk7 := Aside0.mk (own_kept2 (HOk.out.alloc _) hg1 (fun g e => Nat.lt_of_lt_of_le (HGD.out g e).2 (by simp))))); have HO7 := Aside0.mk ho1; (first | (have HR7 : Aside0 (ResBox w.heap.size w7) := ⟨(hg1.block _ hrs6 (fun e => by have := (HGD.out _ e.symm).1; omega)).trans HR6.out⟩) | (have HR7 : Aside0 (ResBox w.heap.size w7) := ⟨(hg1.block _ (Nat.lt_of_lt_of_le hrs6 (by simp)) (fun e => by have := (HGD.out _ e.symm).1; omega)).trans ((Below.heap_alloc _ _ _ hrs6).trans HR6.out)⟩)); have hrs7 : w.heap.size < w7.heap.size := Nat.lt_of_lt_of_le hrs6 (Nat.le_trans (by simp) hg1.size); clear ho1 hg1) | (go_at_call 62; refine (HHV.out _ _ _ _ _ _ (And.right (And.right (And.right (by assumption)))) (Nat.lt_of_lt_of_le hrs4 (by simp)) HOk7.out HO7.out).mono ?_; rintro e w8 hP; obtain ⟨ty8, b8, ty9, b9, rfl, hb8, hfin⟩ := split_some hP (gb_old HB3.out hBn7); have hBn8 := gb_below hb8 hBn7; obtain ⟨⟨q0, q1, q2⟩, p0, p1, p2⟩ := ResBox.cells ((hb8.block _ hrs7).trans HR7.out); have hrs8 : w.heap.size < w8.heap.size := Nat.lt_of_lt_of_le hrs7 hb8.size; have HFIN := Aside0.mk hfin; clear hfin hP hb8))
      all_goals
        go_wp2
        refine bodyPost_ret (v := .agg #[.iface ty8 (.pointer (some ⟨b8, 0, none⟩)), .string mid2, .iface ty9 (.pointer (some ⟨b9, 0, none⟩))]) (by simp [results, Try.results48, go_sem, q0, q1, q2]) rfl ?_
        exact HFIN.out

end Go.Proofs.Ytjabcdfbncglnaa
namespace Go.Proofs.Ytjabcdfbncglnaa
open Go.RowKit Go.Proofs.YtjabcdfbncglnaaW.PrintWords Go.Proofs.YtjabcdfbncglnaaW.PrintLast Go.Proofs.YtjabcdfbncglnaaW.PrintMore
open PTreeRanks (S59 k59 z59)
set_option linter.unusedVariables false
set_option linter.unusedSimpArgs false

theorem put_ok {order bt : Nat} {k : ByteArray} {x : Int} (ho3 : 3 ≤ order) (ho4 : order ≤ 900) : ∀ d, PutOk order bt k x d
  | 0 => fun l v w ok h0 hM hS _ hok => put_leaf k x h0 ho3 ho4 hM hS hok
  | d + 1 => put_inner ho3 ho4 (put_ok ho3 ho4 d)

/-- A tree of whatever depth. -/
abbrev AT := (d : Nat) × T d

def putRoot (order : Nat) (t : AT) (k : ByteArray) (x : Int) : AT :=
  match putT order t.1 t.2 k x with
  | (l, none) => ⟨t.1, l⟩
  | (l, some (mid, r)) => ⟨t.1 + 1, (([mid], [l, r]) : List ByteArray × List (T t.1))⟩

def sizeA (t : AT) : Nat := size t.1 t.2

/-- A tree in its struct: block bt; its nodes lie in blocks that are ok, and bt is none of them. -/
def TreeIn (order : Nat) (t : AT) (bt : Nat) (ok : Nat → Prop) (w : World) : Prop :=
  ∃ v, w.heap[bt]? = some (.cells #[.int .i64 order, v] 71 (0, 0)) ∧ (NK t.1).M w 0 ok t.2 [v] ∧ Shape t.1 t.2 ∧ sizeA t < 1099511627776

theorem newInner_lit {d : Nat} {mid : ByteArray} {l r : T d} {lv rv : Value} {w : World} {ok : Nat → Prop} {kb cb : Nat} (hk : w.heap[kb]? = some (.cells #[.string mid] 9 (0, 0))) (hc : w.heap[cb]? = some (.cells #[lv, rv] 69 (0, 0)))
    (hl : (NK d).M w 0 ok l [lv]) (hr : (NK d).M w 0 ok r [rv]) (hok : ∀ k, w.heap.size ≤ k → ok k) (hkb : ok kb) (hcb : ok cb) (hsz : size d l + size d r ≤ 1099511627776) :
    Calls Try.prog 49 #[.slice (some ⟨kb, 0, none⟩) 1 1, .slice (some ⟨cb, 0, none⟩) 2 2] w (InnerPost d [mid] [l, r] ok w) := by
  have h1 : w.ownsRow kb 9 1 (.slice (some ⟨kb, 0, none⟩) 1 1) 1 ([mid].map .string) := own_of_heap (cap := 1) (cur := [.string mid]) (Nat.le_refl _) hk rfl (by decide) (Nat.le_refl _) rfl
  have h2 : w.ownsRow cb 69 1 (.slice (some ⟨cb, 0, none⟩) 2 2) 2 [lv, rv] := own_of_heap (cap := 2) (cur := [lv, rv]) (Nat.le_refl _) hc rfl (by decide) (Nat.le_refl _) rfl
  have s1 : SRow w 0 ok (.slice (some ⟨kb, 0, none⟩) 1 1) [mid] := (VRow_iff (d := Kd.string) rfl).1 ⟨fun k e => by
    have e2 : some kb = some k := e
    cases e2; exact hkb, _, own_weaken h1 (Nat.zero_le _), Elems_map _ (RM Kd.string w ok) (fun x => (rfl : [Value.string x] = [Value.string x])) _⟩
  have s2 : CRow d w 0 ok (.slice (some ⟨cb, 0, none⟩) 2 2) [l, r] := (VRow_iff (NK_sz d)).1 ⟨fun k e => by
    have e2 : some cb = some k := e
    cases e2; exact hcb, _, own_weaken h2 (Nat.zero_le _), (Elems.one hl).append (Elems.one hr)⟩
  exact newInner_calls s1 s2 hok (by simpa [sizes] using hsz)

/-- What Put answers and leaves. -/
def PutPost (order : Nat) (t : AT) (bt : Nat) (k : ByteArray) (x : Int) (ok : Nat → Prop) (w : World) (e : Ending) (w' : World) : Prop :=
  e = .returned (.tuple #[.bool (decide (sizeA t < sizeA (putRoot order t k x))), .int .i64 0]) ∧ w.grownBy w' (some bt) ∧
    ∃ v, w'.heap[bt]? = some (.cells #[.int .i64 order, v] 71 (0, 0)) ∧ (NK (putRoot order t k x).1).M w' 0 ok (putRoot order t k x).2 [v]

theorem M_step' {d : Nat} {t : T d} {v : Value} {w W : World} {r : Nat} {ok : Nat → Prop} (h : (NK d).M w 0 ok t [v]) (hg : w.grownBy W (some r)) (hr : ¬ ok r) : (NK d).M W 0 ok t [v] :=
  Kd.M_step h (fun k hk hlt => hg.block k hlt (fun e => hr (by injection e with e; rw [← e]; exact hk)))

set_option maxRecDepth 100000 in
set_option maxHeartbeats 8000000 in
theorem Put_calls {order bt : Nat} {t : AT} {ok : Nat → Prop} {w : World} (k : ByteArray) (x : Int) (ho3 : 3 ≤ order) (ho4 : order ≤ 900) (hT : TreeIn order t bt ok w) (hok : ∀ k, w.heap.size ≤ k → ok k) (hbt : ¬ ok bt) :
    Calls Try.prog 25 #[.pointer (some ⟨bt, 0, none⟩), .string k, .int .i64 x] w (PutPost order t bt k x ok w) := by
  obtain ⟨d, t⟩ := t
  obtain ⟨v, hh, hM, hS, hsz⟩ := hT
  have hK := (NK d).K_of_M hM
  have x0 : w.cell? ⟨bt, 0, none⟩ = some (.int .i64 order) := (blk_cell hh 0).trans rfl
  have x1 : w.cell? ⟨bt, 1, none⟩ = some v := (blk_cell hh 1).trans rfl
  have HP := Aside0.mk (put_ok (bt := bt) (k := k) (x := x) ho3 ho4 d t v w ok x0 hM hS hsz hok)
  have hno := Aside0.mk (none_some bt w hK x1)
  have hps := putT_size order d t k x
  have m1 := meth_leaf
  have m2 := meth_inner
  have f1 : w.frozen? ⟨bt, 1, none⟩ = false := blk_frozen hh 1
  have hlt : bt < w.heap.size := blk_lt hh
  have HH := Aside0.mk hh
  have hsd : size d t < 1099511627776 := hsz
  clear hM hS x0
  unfold PutPost putRoot sizeA
  show Calls _ _ _ _ (fun e w' => e = .returned (.tuple #[.bool (decide (size d t < _)), _]) ∧ _ ∧ _)
  generalize putT order d t k x = s at *
  obtain ⟨s1, _ | ⟨mid, s2⟩⟩ := s
  · rcases count_any hK with ⟨bb, rfl, hcnt⟩ | ⟨bb, rfl, hcnt⟩
    all_goals
      have HC := Aside0.mk hcnt
      clear hcnt hK hh
      go_enter Try.func25, Try.ntmps25
      go_wp2_with fail
      refine hno.out.mono ?_
      rintro e w' ⟨rfl, rfl⟩
      go_wp2_with fail
      refine HC.out.mono ?_
      rintro e w' ⟨rfl, rfl⟩
      go_wp2_with fail
      refine HP.out.mono ?_
      rintro e w2 ⟨hb2, lv, rfl, hMl⟩
      have y1 := pw_cell_below hb2 x1
      have g1 : w2.frozen? ⟨bt, 1, none⟩ = false := (hb2.frozen (p := ⟨bt, 1, none⟩) hlt).trans f1
      have hlt2 : bt < w2.heap.size := Nat.lt_of_lt_of_le hlt hb2.size
      have hG2 : w2.grownBy ((w2.setCell ⟨bt, 1, none⟩ lv).alloc (.cells #[lv, .string ⟨#[]⟩, .nilIface] 107)) (some bt) := gb_alloc (gb_set (grownBy_refl _ _) _ _) _
      have hG : w.grownBy ((w2.setCell ⟨bt, 1, none⟩ lv).alloc (.cells #[lv, .string ⟨#[]⟩, .nilIface] 107)) (some bt) := grownBy_trans (gb_below hb2 (grownBy_refl _ _)) hG2
      have hM5 := M_step' hMl hG2 hbt
      have hH5 : ((w2.setCell ⟨bt, 1, none⟩ lv).alloc (.cells #[lv, .string ⟨#[]⟩, .nilIface] 107)).heap[bt]? = some (.cells #[.int .i64 order, lv] 71 (0, 0)) := (Below.heap_alloc _ _ _ (by simpa using hlt2)).trans ((blk_set ((hb2.block _ hlt).trans HH.out) 1 lv).trans rfl)
      have HG := Aside0.mk hG
      have HM5 := Aside0.mk hM5
      have HH5 := Aside0.mk hH5
      have hcn := count_any ((NK d).K_of_M hM5)
      have hsz5 : size d s1 ≤ 1099511627776 := by
        have : size d s1 + 0 ≤ size d t + 1 := hps
        omega
      clear hMl hG hG2 hM5 hH5 hb2 hps
      rcases hcn with ⟨lb, rfl, hcn⟩ | ⟨lb, rfl, hcn⟩
      all_goals
        have HCN := Aside0.mk hcn
        clear hcn
        go_wp2_with fail
        refine HCN.out.mono ?_
        rintro e w' ⟨rfl, rfl⟩
        go_wp2
        go_ret2
        exact ⟨by simp, HG.out, _, HH5.out, HM5.out⟩
  · rcases count_any hK with ⟨bb, rfl, hcnt⟩ | ⟨bb, rfl, hcnt⟩
    all_goals
      have HC := Aside0.mk hcnt
      clear hcnt hK hh
      go_enter Try.func25, Try.ntmps25
      go_wp2_with fail
      refine hno.out.mono ?_
      rintro e w' ⟨rfl, rfl⟩
      go_wp2_with fail
      refine HC.out.mono ?_
      rintro e w' ⟨rfl, rfl⟩
      go_wp2_with fail
      refine HP.out.mono ?_
      rintro e w2 ⟨hb2, lv, rv, rfl, hMl, hMr⟩
      have y1 := pw_cell_below hb2 x1
      have g1 : w2.frozen? ⟨bt, 1, none⟩ = false := (hb2.frozen (p := ⟨bt, 1, none⟩) hlt).trans f1
      have hlt2 : bt < w2.heap.size := Nat.lt_of_lt_of_le hlt hb2.size
      have hG2 : w2.grownBy ((w2.setCell ⟨bt, 1, none⟩ lv).alloc (.cells #[lv, .string mid, rv] 107)) (some bt) := gb_alloc (gb_set (grownBy_refl _ _) _ _) _
      have hG : w.grownBy ((w2.setCell ⟨bt, 1, none⟩ lv).alloc (.cells #[lv, .string mid, rv] 107)) (some bt) := grownBy_trans (gb_below hb2 (grownBy_refl _ _)) hG2
      have hH5 : ((w2.setCell ⟨bt, 1, none⟩ lv).alloc (.cells #[lv, .string mid, rv] 107)).heap[bt]? = some (.cells #[.int .i64 order, lv] 71 (0, 0)) := (Below.heap_alloc _ _ _ (by simpa using hlt2)).trans ((blk_set ((hb2.block _ hlt).trans HH.out) 1 lv).trans rfl)
      have hsz5 : size d s1 + size d s2 ≤ 1099511627776 := by
        have : size d s1 + size d s2 ≤ size d t + 1 := hps
        omega
      obtain ⟨ty, lb, rfl⟩ := NK_form ((NK d).K_of_M hMl)
      obtain ⟨ty2, lb2, rfl⟩ := NK_form ((NK d).K_of_M hMr)
      have hw2 : w.heap.size ≤ w2.heap.size := hb2.size
      have HMl := Aside0.mk (M_step' hMl hG2 hbt)
      have HMr := Aside0.mk (M_step' hMr hG2 hbt)
      have HG := Aside0.mk hG
      have HH5 := Aside0.mk hH5
      clear hMl hMr hG hG2 hH5 hb2 hps
      go_wp2_with fail
      have hlt5 : bt < ((w2.setCell ⟨bt, 1, none⟩ (.iface ty (.pointer (some ⟨lb, 0, none⟩)))).alloc (.cells #[.iface ty (.pointer (some ⟨lb, 0, none⟩)), .string mid, .iface ty2 (.pointer (some ⟨lb2, 0, none⟩))] 107)).heap.size := blk_lt HH5.out
      have hw5 : w.heap.size ≤ ((w2.setCell ⟨bt, 1, none⟩ (.iface ty (.pointer (some ⟨lb, 0, none⟩)))).alloc (.cells #[.iface ty (.pointer (some ⟨lb, 0, none⟩)), .string mid, .iface ty2 (.pointer (some ⟨lb2, 0, none⟩))] 107)).heap.size := HG.out.size
      have eK : ((w2.setCell ⟨bt, 1, none⟩ (.iface ty (.pointer (some ⟨lb, 0, none⟩)))).alloc (.cells #[.iface ty (.pointer (some ⟨lb, 0, none⟩)), .string mid, .iface ty2 (.pointer (some ⟨lb2, 0, none⟩))] 107)).heap.size = w2.heap.size + 1 := by simp
      generalize (w2.setCell ⟨bt, 1, none⟩ (.iface ty (.pointer (some ⟨lb, 0, none⟩)))).alloc (.cells #[.iface ty (.pointer (some ⟨lb, 0, none⟩)), .string mid, .iface ty2 (.pointer (some ⟨lb2, 0, none⟩))] 107) = W5 at *
      have hk7 : ((W5.alloc (.cells #[.string mid] 9)).alloc (.cells #[.iface ty (.pointer (some ⟨lb, 0, none⟩)), .iface ty2 (.pointer (some ⟨lb2, 0, none⟩))] 69)).heap[w2.heap.size + 1]? = some (.cells #[.string mid] 9 (0, 0)) := by
        rw [← eK]
        exact (Below.heap_alloc _ _ _ (by simp)).trans (heap_alloc_new W5 _)
      have hc7 : ((W5.alloc (.cells #[.string mid] 9)).alloc (.cells #[.iface ty (.pointer (some ⟨lb, 0, none⟩)), .iface ty2 (.pointer (some ⟨lb2, 0, none⟩))] 69)).heap[w2.heap.size + 1 + 1]? = some (.cells #[.iface ty (.pointer (some ⟨lb, 0, none⟩)), .iface ty2 (.pointer (some ⟨lb2, 0, none⟩))] 69 (0, 0)) := by
        rw [← eK, show W5.heap.size + 1 = (W5.alloc (.cells #[.string mid] 9)).heap.size by simp]
        exact heap_alloc_new _ _
      have hB7 : Below W5.heap.size W5 ((W5.alloc (.cells #[.string mid] 9)).alloc (.cells #[.iface ty (.pointer (some ⟨lb, 0, none⟩)), .iface ty2 (.pointer (some ⟨lb2, 0, none⟩))] 69)) := below_mk (below_mk (Below.refl _ _) _) _
      have hs7 : ((W5.alloc (.cells #[.string mid] 9)).alloc (.cells #[.iface ty (.pointer (some ⟨lb, 0, none⟩)), .iface ty2 (.pointer (some ⟨lb2, 0, none⟩))] 69)).heap.size = W5.heap.size + 1 + 1 := by simp
      generalize (W5.alloc (.cells #[.string mid] 9)).alloc (.cells #[.iface ty (.pointer (some ⟨lb, 0, none⟩)), .iface ty2 (.pointer (some ⟨lb2, 0, none⟩))] 69) = W7 at *
      have HNI := newInner_lit hk7 hc7 (M_below' HMl.out hB7) (M_below' HMr.out hB7) (fun k h => hok k (by omega)) (hok _ (by omega)) (hok _ (by omega)) hsz5
      have hh7 := (hB7.block _ hlt5).trans HH5.out
      have hlt7 : bt < W7.heap.size := blk_lt hh7
      have HG7 := Aside0.mk (gb_below hB7 HG.out)
      have HH7 := Aside0.mk hh7
      clear hk7 hc7 hB7 HMl HMr HG HH5 hh7 eK hs7
      refine HNI.mono ?_
      rintro e w8 ⟨nb, rfl, hnb, hM8, hb8⟩
      have hh8 := (hb8.block _ hlt7).trans HH7.out
      have hlt8 : bt < w8.heap.size := blk_lt hh8
      have z1 : w8.cell? ⟨bt, 1, none⟩ = some (.iface ty (.pointer (some ⟨lb, 0, none⟩))) := (blk_cell hh8 1).trans rfl
      have zf : w8.frozen? ⟨bt, 1, none⟩ = false := blk_frozen hh8 1
      have hG9 : w8.grownBy (w8.setCell ⟨bt, 1, none⟩ (.iface 78 (.pointer (some ⟨nb, 0, none⟩)))) (some bt) := gb_set (grownBy_refl _ _) _ _
      have hM9 := M_step' hM8 hG9 hbt
      have hh9 : (w8.setCell ⟨bt, 1, none⟩ (.iface 78 (.pointer (some ⟨nb, 0, none⟩)))).heap[bt]? = some (.cells #[.int .i64 order, .iface 78 (.pointer (some ⟨nb, 0, none⟩))] 71 (0, 0)) := (blk_set hh8 1 _).trans rfl
      have HG9 := Aside0.mk (grownBy_trans (gb_below hb8 HG7.out) hG9)
      have HH9 := Aside0.mk hh9
      have HM9 := Aside0.mk hM9
      have hcn := count_any ((NK (d + 1)).K_of_M hM9)
      have HCN : Aside0 (Calls Try.prog 114 #[.pointer (some ⟨nb, 0, none⟩)] (w8.setCell ⟨bt, 1, none⟩ (.iface 78 (.pointer (some ⟨nb, 0, none⟩)))) fun e w' => e = .returned (.int .i64 (size d s1 + size d s2 : Nat)) ∧ (w8.setCell ⟨bt, 1, none⟩ (.iface 78 (.pointer (some ⟨nb, 0, none⟩)))) = w') := by
        rcases hcn with ⟨q, e, _⟩ | ⟨q, e, h⟩
        · cases e
        · cases e
          have e2 : size (d + 1) (([mid], [s1, s2]) : List ByteArray × List (T d)) = size d s1 + size d s2 := by show ([s1, s2].map (size d)).sum = _; simp
          rw [e2] at h
          exact ⟨h⟩
      clear hM8 hb8 hh8 hG9 hM9 hh9 hcn y1 g1 hlt2 HNI HG7 HH7
      go_wp2_with fail
      refine HCN.out.mono ?_
      rintro e w' ⟨rfl, rfl⟩
      go_wp2
      go_ret2
      refine ⟨?_, HG9.out, _, HH9.out, HM9.out⟩
      have e2 : size (d + 1) (([mid], [s1, s2]) : List ByteArray × List (T d)) = size d s1 + size d s2 := by show ([s1, s2].map (size d)).sum = _; simp
      simp only [e2]
      simp
      try omega

end Go.Proofs.Ytjabcdfbncglnaa
