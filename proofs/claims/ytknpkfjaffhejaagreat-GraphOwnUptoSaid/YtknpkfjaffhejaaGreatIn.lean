/- WHAT IS PROVED: insertion into a strictly rising list; two strictly rising lists of the same elements are equal; Compact of a sorted list rises strictly. -/
import Derived.Test.YtknpkfjaffhejaaGreatCl
namespace Go.Proofs.YtknpkfjaffhejaaGreat
open Go.RowKit Go.Sort Go.Lib Go.Proofs.YtknpkfjaffhejaaGreatW.PrintWords Go.Proofs.YtknpkfjaffhejaaGreatW.PrintLast Go.Proofs.YtknpkfjaffhejaaGreatW.PrintMore
set_option linter.unusedVariables false
set_option linter.unusedSimpArgs false

/-- A strict total order. -/
structure STO {α : Type} (lt : α → α → Bool) : Prop where
  irrefl : ∀ x, lt x x = false
  trans : ∀ x y z, lt x y = true → lt y z = true → lt x z = true
  total : ∀ x y, lt x y = false → lt y x = false → x = y
theorem Cmp3.sto {α : Type} {c : α → α → Int} (h : Cmp3 c) : STO (ltOf c) := ⟨h.swo.irrefl, h.swo.trans, h.total⟩
theorem bltSto : STO blt := ⟨blt_irrefl, fun _ _ _ => blt_trans, fun _ _ => blt_tri⟩

section
variable {α : Type} [DecidableEq α] {lt : α → α → Bool}
/-- In its place, once. -/
def ins (lt : α → α → Bool) : List α → α → List α
  | [], x => [x]
  | y :: l, x => if lt y x = true then y :: ins lt l x else if y = x then y :: l else x :: y :: l
theorem mem_ins (x : α) : ∀ (l : List α) (y : α), y ∈ ins lt l x ↔ y = x ∨ y ∈ l
  | [], y => by simp [ins]
  | z :: l, y => by
    unfold ins
    split
    · rw [List.mem_cons, mem_ins x l, List.mem_cons]
      constructor
      · rintro (h | h | h)
        · exact .inr (.inl h)
        · exact .inl h
        · exact .inr (.inr h)
      · rintro (h | h | h)
        · exact .inr (.inl h)
        · exact .inl h
        · exact .inr (.inr h)
    · split
      · rename_i h
        subst h
        rw [List.mem_cons]
        constructor
        · exact .inr
        · rintro (h | h)
          · exact .inl h
          · exact h
      · rw [List.mem_cons]
theorem ins_len (x : α) : ∀ l : List α, (ins lt l x).length ≤ l.length + 1
  | [] => by simp [ins]
  | z :: l => by
    have := ins_len x l
    unfold ins
    split
    · simp only [List.length_cons]; omega
    · split <;> simp
theorem ins_le (x : α) : ∀ l : List α, l.length ≤ (ins lt l x).length
  | [] => by simp [ins]
  | z :: l => by
    have := ins_le x l
    unfold ins
    split
    · simp only [List.length_cons]; omega
    · split <;> simp
theorem ins_sorted (h : STO lt) (x : α) : ∀ l : List α, l.Pairwise (fun a b => lt a b = true) → (ins lt l x).Pairwise (fun a b => lt a b = true)
  | [], _ => by simp [ins]
  | z :: l, hp => by
    rw [List.pairwise_cons] at hp
    unfold ins
    split
    · rename_i h1
      rw [List.pairwise_cons]
      refine ⟨fun y hy => ?_, ins_sorted h x l hp.2⟩
      rcases (mem_ins x l y).1 hy with rfl | hy
      · exact h1
      · exact hp.1 y hy
    · rename_i h1
      split
      · exact List.pairwise_cons.2 hp
      · rename_i h2
        have h3 : lt x z = true := by
          cases e : lt x z
          · exact absurd (h.total z x (by simpa using h1) e) h2
          · rfl
        rw [List.pairwise_cons, List.pairwise_cons]
        refine ⟨fun y hy => ?_, hp⟩
        rcases List.mem_cons.1 hy with rfl | hy
        · exact h3
        · exact h.trans _ _ _ h3 (hp.1 y hy)

omit [DecidableEq α] in
theorem sorted_uniq (h : STO lt) : ∀ l m : List α, l.Pairwise (fun a b => lt a b = true) → m.Pairwise (fun a b => lt a b = true) → (∀ x, x ∈ l ↔ x ∈ m) → l = m
  | [], [], _, _, _ => rfl
  | [], y :: m, _, _, e => by have := (e y).2 (by simp); simp at this
  | x :: l, [], _, _, e => by have := (e x).1 (by simp); simp at this
  | x :: l, y :: m, h1, h2, e => by
    rw [List.pairwise_cons] at h1 h2
    have exy : x = y := by
      rcases List.mem_cons.1 ((e x).1 (by simp)) with q | q
      · exact q
      · rcases List.mem_cons.1 ((e y).2 (by simp)) with r | r
        · exact r.symm
        · have := h.trans _ _ _ (h1.1 y r) (h2.1 x q)
          rw [h.irrefl] at this
          cases this
    subst exy
    congr 1
    refine sorted_uniq h l m h1.2 h2.2 fun z => ?_
    have hz := e z
    rw [List.mem_cons, List.mem_cons] at hz
    constructor
    · intro q
      rcases hz.1 (.inr q) with r | r
      · subst r; have := h1.1 z q; rw [h.irrefl] at this; cases this
      · exact r
    · intro q
      rcases hz.2 (.inr q) with r | r
      · subst r; have := h2.1 z q; rw [h.irrefl] at this; cases this
      · exact r

/-- All of a list, one behind the other. -/
def insAll (lt : α → α → Bool) (l : List α) : List α := l.foldl (ins lt) []
theorem insAll_snoc (l : List α) (x : α) : insAll lt (l ++ [x]) = ins lt (insAll lt l) x := by simp [insAll]
theorem insAll_aux (h : STO lt) : ∀ (l acc : List α), acc.Pairwise (fun a b => lt a b = true) → (l.foldl (ins lt) acc).Pairwise (fun a b => lt a b = true) ∧ ∀ x, x ∈ l.foldl (ins lt) acc ↔ x ∈ acc ∨ x ∈ l
  | [], acc, hp => ⟨hp, fun x => by simp⟩
  | y :: l, acc, hp => by
    obtain ⟨h1, h2⟩ := insAll_aux h l (ins lt acc y) (ins_sorted h y acc hp)
    refine ⟨h1, fun x => ?_⟩
    rw [List.foldl_cons, h2, mem_ins, List.mem_cons]
    constructor
    · rintro ((q | q) | q)
      · exact .inr (.inl q)
      · exact .inl q
      · exact .inr (.inr q)
    · rintro (q | q | q)
      · exact .inl (.inr q)
      · exact .inl (.inl q)
      · exact .inr q
theorem insAll_sorted (h : STO lt) (l : List α) : (insAll lt l).Pairwise (fun a b => lt a b = true) := (insAll_aux h l [] .nil).1
theorem mem_insAll (h : STO lt) (l : List α) (x : α) : x ∈ insAll lt l ↔ x ∈ l := by rw [insAll, (insAll_aux h l [] .nil).2]; simp
theorem insAll_len (l : List α) : (insAll lt l).length ≤ l.length := by
  have : ∀ (l acc : List α), (l.foldl (ins lt) acc).length ≤ acc.length + l.length := by
    intro l
    induction l with
    | nil => intro acc; simp
    | cons y r ih =>
      intro acc
      have h1 := ih (ins lt acc y)
      have h2 : (ins lt acc y).length ≤ acc.length + 1 := ins_len y acc
      simp only [List.foldl_cons, List.length_cons]
      omega
  have := this l []
  simpa [insAll] using this

variable [Inhabited α]
theorem compact_sorted (h : STO lt) (d : Array α) (hd : ∀ i j, i ≤ j → j < d.size → lt d[j]! d[i]! = false) : ∀ m, m ≤ d.size →
    (compactUpTo d m).Pairwise (fun a b => lt a b = true) ∧ (∀ x, x ∈ compactUpTo d m ↔ ∃ j, j < m ∧ d[j]! = x)
  | 0, _ => ⟨by simp [compactUpTo], fun x => by simp [compactUpTo]⟩
  | m + 1, hm => by
    obtain ⟨h1, h2⟩ := compact_sorted h d hd m (by omega)
    rw [compactUpTo_succ]
    cases hk : keeps d m
    · simp only [Bool.false_eq_true, if_false, List.append_nil]
      refine ⟨h1, fun x => (h2 x).trans ⟨fun ⟨j, q, r⟩ => ⟨j, by omega, r⟩, fun ⟨j, q, r⟩ => ?_⟩⟩
      by_cases e : j = m
      · subst e
        simp [keeps] at hk
        exact ⟨j - 1, by omega, by rw [← hk.2]; exact r⟩
      · exact ⟨j, by omega, r⟩
    · rw [if_pos rfl]
      have hk' : m = 0 ∨ d[m]! ≠ d[m - 1]! := by simpa [keeps] using hk
      refine ⟨List.pairwise_append.2 ⟨h1, by simp, fun a ha b hb => ?_⟩, fun x => ?_⟩
      · rw [List.mem_singleton] at hb
        subst hb
        obtain ⟨j, hj, rfl⟩ := (h2 a).1 ha
        have e1 := hd j m (by omega) (by omega)
        cases e2 : lt d[j]! d[m]!
        · exfalso
          have e3 := h.total _ _ e2 e1
          have hk2 : d[m]! ≠ d[m - 1]! := by rcases hk' with q | q; omega; exact q
          have e4 := hd j (m - 1) (by omega) (by omega)
          have e5 := hd (m - 1) m (by omega) (by omega)
          rw [e3] at e4
          exact hk2 (h.total _ _ e5 e4)
        · rfl
      · rw [List.mem_append, h2, List.mem_singleton]
        constructor
        · rintro (⟨j, q, r⟩ | q)
          · exact ⟨j, by omega, r⟩
          · exact ⟨m, by omega, q.symm⟩
        · rintro ⟨j, q, r⟩
          by_cases e : j = m
          · subst e; exact .inr r.symm
          · exact .inl ⟨j, by omega, r⟩
theorem ins_step {l : List α} {x : α} {i : Nat} (hi : i < l.length) (h : ins lt l x = l.take i ++ ins lt (l.drop i) x) (hl : lt l[i]! x = true) : ins lt l x = l.take (i + 1) ++ ins lt (l.drop (i + 1)) x := by
  rw [h, List.drop_eq_getElem_cons hi]
  rw [getElem!_pos l i hi] at hl
  rw [show ins lt (l[i] :: l.drop (i + 1)) x = l[i] :: ins lt (l.drop (i + 1)) x from if_pos hl, List.take_succ_eq_append_getElem hi, List.append_assoc]
  rfl
omit [Inhabited α] in
theorem ins_end {l : List α} {x : α} (h : ins lt l x = l.take l.length ++ ins lt (l.drop l.length) x) : ins lt l x = l.take l.length ++ [x] ++ l.drop l.length := by
  rw [h, List.drop_length]
  simp [ins]
theorem ins_same {l : List α} {x : α} {i : Nat} (hi : i < l.length) (h : ins lt l x = l.take i ++ ins lt (l.drop i) x) (hl : lt l[i]! x = false) (he : l[i]! = x) : ins lt l x = l := by
  rw [getElem!_pos l i hi] at hl he
  have e : ins lt (l.drop i) x = l.drop i := by
    rw [List.drop_eq_getElem_cons hi, show ins lt (l[i] :: l.drop (i + 1)) x = _ from if_neg (by rw [hl]; decide), if_pos he]
  rw [h, e, List.take_append_drop]
theorem ins_new {l : List α} {x : α} {i : Nat} (hi : i < l.length) (h : ins lt l x = l.take i ++ ins lt (l.drop i) x) (hl : lt l[i]! x = false) (he : l[i]! ≠ x) : ins lt l x = l.take i ++ [x] ++ l.drop i := by
  rw [getElem!_pos l i hi] at hl he
  have e : ins lt (l.drop i) x = x :: l.drop i := by
    rw [List.drop_eq_getElem_cons hi, show ins lt (l[i] :: l.drop (i + 1)) x = _ from if_neg (by rw [hl]; decide), if_neg he]
  rw [h, e, List.append_assoc]
  rfl
end

theorem sortE_mono (l : List Edge) (i j : Nat) (hij : i ≤ j) (hj : j < (sortE l).toArray.size) : ltOf cmpE (sortE l).toArray[j]! (sortE l).toArray[i]! = false := by
  have hp : (sortE l).Pairwise (fun x y => (!(ltOf cmpE) y x) = true) := List.pairwise_mergeSort (le := fun x y => !(ltOf cmpE) y x) (fun a b c h1 h2 => by
    simp only [Bool.not_eq_true'] at *
    exact cmpE3.swo.ntrans c b a h2 h1) (fun a b => by
    cases e : ltOf cmpE b a
    · simp
    · cases f : ltOf cmpE a b
      · simp
      · have := cmpE3.sto.trans _ _ _ e f
        rw [cmpE3.sto.irrefl] at this
        cases this) l
  have hj' : j < (sortE l).length := by simpa using hj
  rw [getElem!_pos (sortE l).toArray j hj, getElem!_pos (sortE l).toArray i (by omega)]
  rcases Nat.lt_or_eq_of_le hij with h | h
  · have := List.pairwise_iff_getElem.1 hp i j (by omega) hj' h
    simpa using this
  · subst h
    exact cmpE3.sto.irrefl _

/-- ordered and the reference agree. -/
theorem ordE_ins (l : List Edge) : ordE l = insAll (ltOf cmpE) l := by
  obtain ⟨h1, h2⟩ := compact_sorted cmpE3.sto (sortE l).toArray (sortE_mono l) (sortE l).length (by simp)
  refine sorted_uniq cmpE3.sto _ _ h1 (insAll_sorted cmpE3.sto l) fun x => ?_
  rw [mem_insAll cmpE3.sto]
  constructor
  · intro hx
    obtain ⟨j, hj, rfl⟩ := (h2 _).1 hx
    have hm : (sortE l).toArray[j]! ∈ sortE l := by
      rw [getElem!_pos (sortE l).toArray j (by simpa using hj)]
      simp
    exact (List.mergeSort_perm l _).mem_iff.1 hm
  · intro hx
    have hx' : x ∈ sortE l := (List.mergeSort_perm l _).mem_iff.2 hx
    obtain ⟨j, hj, rfl⟩ := List.getElem_of_mem hx'
    exact (h2 _).2 ⟨j, hj, by rw [getElem!_pos _ _ (by simpa using hj)]; simp⟩
end Go.Proofs.YtknpkfjaffhejaaGreat
