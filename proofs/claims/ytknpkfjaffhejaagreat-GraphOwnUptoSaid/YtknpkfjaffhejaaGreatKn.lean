/- WHAT IS PROVED: slices.Sorted(maps.Keys(m)): the keys in order. -/
import Derived.Test.YtknpkfjaffhejaaGreatMp
import Derived.Test.YtknpkfjaffhejaaGreatShK
import Derived.Sort.Walk0
namespace Go.Proofs.YtknpkfjaffhejaaGreat
open Go.RowKit Go.Maps Go.Shelf Go.Proofs.YtknpkfjaffhejaaGreatW.PrintWords Go.Proofs.YtknpkfjaffhejaaGreatW.PrintLast Go.Proofs.YtknpkfjaffhejaaGreatW.PrintMore
set_option linter.unusedVariables false
set_option linter.unusedSimpArgs false

theorem keys_list {H : Type} {w : World} {R : Value → Option (DataW H × List MemPlace)} {b n : Nat} {D : DataW H} (h : w.ownsMap Tryz.prog 9 R b n D) : (strKeys D).Nodup ∧ (∀ x, x ∈ strKeys D ↔ has D (.string x) = true) ∧ (∀ x ∈ strKeys D, x.length ≤ maxLen) ∧ Maps.size D ≤ n := by
  have K := Maps.string_keyed Tryz.underlying9
  have hle := strKeys_le h Tryz.underlying9
  obtain ⟨es, hD, hpw, _⟩ := h.entries K
  obtain ⟨es', hD', hko⟩ := h.keysOf
  obtain rfl : es = es' := by rw [hD] at hD'; simpa using hD'
  have hst : ∀ p ∈ es, ∃ x, p.1 = .string x := fun p hp => by obtain ⟨v, hv⟩ := hko p hp; obtain ⟨x, _, hx, _⟩ := Maps.keyOf_str Tryz.underlying9 hv; exact ⟨x, hx⟩
  refine ⟨?_, fun x => ?_, hle, ?_⟩
  · subst hD
    show (es.map fun p => strOf p.1).Nodup
    refine List.pairwise_map.2 (hpw.imp_of_mem fun {p q} hp' hq' hne e => hne ?_)
    obtain ⟨a, ha⟩ := hst p hp'
    obtain ⟨b, hb⟩ := hst q hq'
    rw [ha, hb] at e ⊢
    exact congrArg _ e
  · subst hD
    rw [has_eq, List.any_eq_true]
    show x ∈ es.map (fun p => strOf p.1) ↔ _
    rw [List.mem_map]
    constructor
    · rintro ⟨p, hp', rfl⟩
      obtain ⟨a, ha⟩ := hst p hp'
      exact ⟨p, hp', by rw [ha]; simp [Lit.sameKey, strOf]⟩
    · rintro ⟨p, hp', hs⟩
      obtain ⟨a, ha⟩ := hst p hp'
      rw [ha] at hs
      exact ⟨p, hp', by rw [ha]; simpa [Lit.sameKey, strOf] using hs⟩
  · obtain ⟨es2, clock, _, _, hs, hD2⟩ := h
    rw [hD2, size_eq, length_sorted]
    simpa using hs

def toBA (x : List UInt8) : ByteArray := ⟨x.toArray⟩
theorem toBA_toList (x : List UInt8) : (toBA x).toList = x := by rw [ByteArray.toList_eq]; rfl
theorem toBA_data (s : ByteArray) : toBA s.data.toList = s := by simp [toBA]
theorem lt_of_leB {x y : List UInt8} (h : leB x y = true) (hne : x ≠ y) : blt (toBA x) (toBA y) = true := by
  unfold blt
  rw [toBA_toList, toBA_toList, bytesLess_eq]
  simp only [leB, decide_eq_true_eq] at h ⊢
  rcases Decidable.em (x < y) with h1 | h1
  · exact h1
  · exact absurd (List.le_antisymm h (List.not_lt.1 h1)) hne

theorem sorted_names {ss : List (List UInt8)} (hnd : ss.Nodup) : ((ss.mergeSort leB).map toBA).Pairwise (fun x y => blt x y = true) := by
  have tr : ∀ a b c : List UInt8, leB a b = true → leB b c = true → leB a c = true := fun a b c h1 h2 => by simp only [leB, decide_eq_true_eq] at *; exact List.le_trans h1 h2
  have tot : ∀ a b : List UInt8, (leB a b || leB b a) = true := fun a b => by simp only [leB, Bool.or_eq_true, decide_eq_true_eq]; exact List.le_total a b
  refine List.pairwise_map.2 ?_
  have h1 := List.pairwise_mergeSort tr tot ss
  have h2 : (ss.mergeSort leB).Nodup := (List.mergeSort_perm ss leB).nodup_iff.2 hnd
  exact (List.pairwise_and_iff.2 ⟨h1, h2⟩).imp (fun h => lt_of_leB h.1 h.2)

theorem sortsT (m : Nat) : AnyZ.SortsIn Tryz.prog Tryz.sortedS_ren Fence.wide m :=
  ⟨fun blk off cap ss W hH hblk hsz => callsIn_wide.2 (AnyM.slices_Sort_string Tryz.sortS blk off cap ss W hH hblk hsz),
   fun p cap W => callsIn_wide.2 (AnyM.slices_Sort_string_none Tryz.sortS p cap W)⟩

theorem keysS_calls (mb : Option Nat) (W : World) : Calls Tryz.prog 27 #[.map mb] W fun e w' => e = .returned (.func (.func 43) #[] #[.pointer (some ⟨W.heap.size, 0, none⟩)]) ∧ w' = W.alloc (.cells #[.map mb] 58) :=
  callsIn_wide.1 (AnyZ.keys_in Tryz.keysS Fence.wide 5 trivial rfl mb W)

set_option maxHeartbeats 1000000 in
theorem sortedS_calls {b n : Nat} {z : Value} {ks : List ByteArray} {g : ByteArray → Value} {w : World} (hm : MapAt 9 Value.string okS z w b n ks g) (hn : n ≤ 1099511627776) :
    Calls Tryz.prog 26 #[.func (.func 43) #[] #[.pointer (some ⟨w.heap.size, 0, none⟩)]] (w.alloc (.cells #[.map (some b)] 58)) fun e w' => ∃ (v : Value) (names : List ByteArray), e = .returned v ∧ w'.ownsRow w.heap.size 9 1 v names.length (names.map Value.string) ∧ names.Pairwise (fun x y => blt x y = true) ∧ (∀ s, okS s → (s ∈ names ↔ s ∈ ks)) ∧ (∀ s ∈ names, okS s) ∧ Below w.heap.size w w' := by
  obtain ⟨D, hown, hD, hks⟩ := hm
  obtain ⟨k1, k2, k3, k4⟩ := keys_list hown
  have hbl := hown.lt
  have hseq : SeqGives Fence.wide 2 Tryz.prog 43 #[.pointer (some ⟨w.heap.size, 0, none⟩)] encStr (fun ss => ss.Perm (strKeys D)) (Maps.size D) (w.alloc (.cells #[.map (some b)] 58)) :=
    AnyZ.keys_gives (ρ := Tryz.keysS_ren) { Tryz.keysS with } Fence.wide _ trivial rfl (by omega) w.heap.size b n D _ (by simp) (by simp) (by
      obtain ⟨es, clock, hb, Ft, hs, hD⟩ := hown
      exact ⟨es, clock, (Below.heap_alloc _ _ b hbl).trans hb, Ft, hs, hD⟩)
  have cS := AnyZ.sorted_in Tryz.sortedS Fence.wide 5 trivial trivial trivial trivial rfl (by omega) (sortsT _) (enters_of Tryz.func42 (by kernel_rfl) rfl) 43 #[.pointer (some ⟨w.heap.size, 0, none⟩)] trivial (enters_of Tryz.func43 (by kernel_rfl) rfl) _ _ (by unfold maxLen; omega) (by omega) _ hseq
  change CallsIn _ _ Tryz.prog 26 _ _ _ at cS
  refine (callsIn_wide.1 cS).mono ?_
  rintro e w' ⟨v, ss, rfl, hS, hrow, hnil, hb⟩
  have hnd : ss.Nodup := hS.nodup_iff.2 k1
  have hmem : ∀ x, toBA x ∈ (ss.mergeSort leB).map toBA ↔ x ∈ strKeys D := fun x => by
    rw [List.mem_map]
    constructor
    · rintro ⟨y, hy, e⟩
      have : y = x := by have := congrArg ByteArray.toList e; rwa [toBA_toList, toBA_toList] at this
      subst this
      exact hS.mem_iff.1 ((List.mergeSort_perm ss leB).mem_iff.1 hy)
    · intro hx
      exact ⟨x, (List.mergeSort_perm ss leB).mem_iff.2 (hS.mem_iff.2 hx), rfl⟩
  refine ⟨v, (ss.mergeSort leB).map toBA, rfl, ?_, sorted_names hnd, fun s hs => ?_, fun s hs => ?_, ((Below.refl _ w).alloc (Nat.le_refl _) _).trans (hb.mono (by simp))⟩
  · have h1 := ownsRow_base_a hrow (by simp : w.heap.size ≤ (w.alloc (.cells #[.map (some b)] 58)).heap.size)
    rw [List.map_map, List.length_map, List.length_mergeSort]
    exact h1
  · have h1 := hks s (.string s.data.toList) hs (WideMaps.keyOf_string_mk Tryz.underlying9 hs)
    rw [← h1.2, ← k2, ← hmem, toBA_data]
  · rw [List.mem_map] at hs
    obtain ⟨y, hy, rfl⟩ := hs
    have := k3 y (hS.mem_iff.1 ((List.mergeSort_perm ss leB).mem_iff.1 hy))
    unfold okS toBA
    simpa [ByteArray.size] using this
end Go.Proofs.YtknpkfjaffhejaaGreat
