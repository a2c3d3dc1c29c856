/- WHAT IS PROVED: what an argument of strings holds, read. -/
import Derived.Test.YtjabcdfbncglnaaKB0
namespace Go.Proofs.Ytjabcdfbncglnaa.Opn
open Go.ChangeShapes Go.WideShapes Go.ChangeAt Go.RowKit Go.Proofs.YtjabcdfbncglnaaW.PrintWords
open Go.ChangeMaps (open_string shut_string)
set_option linter.unusedVariables false
theorem Kc_nil {α : Type} (d : Kd α) (w : World) : d.C w none ([] : List α).length [] := ⟨rfl, by simp, fun h => absurd h (Nat.lt_irrefl 0)⟩
theorem Kc_of_reads {α : Type} {enc : α → Value} {d : α} {h1 : ∀ x, (enc x).oneCell' = true} {w : World} {A : Option Addr} {n : Nat} {xs : List α} (h : ReadsOf enc d w A n xs) : (Kd.scalar enc h1).C w A n xs := by
  refine ⟨h.1, h.2.1, fun hn => ?_⟩
  obtain ⟨ad, e, hc⟩ := h.2.2 hn
  refine ⟨ad, e, fun j p hj => ⟨[enc p], rfl, rfl, fun i u hu => ?_⟩⟩
  obtain ⟨hl, hp⟩ := List.getElem?_eq_some_iff.1 hj
  have h2 := hc j (by have := h.1; omega)
  rw [List.getD_eq_getElem?_getD, hj] at h2
  cases i with
  | zero =>
    have : enc p = u := by simpa using hu
    subst this
    simpa [Kd.scalar] using h2
  | succ i => simp at hu
theorem keys_read2 {H : Type} {enc : TypeId × Value → H} {W : World} {base : Nat} {sp : Nat → Bool} {held : Bool} {A : Option Addr} {len cap : Nat} {d : DataW H} {ps : List MemPlace}
    (h : DataW.Trod enc Try.prog W base sp held 22 (.slice A len cap) d ps) : ∃ ks : List ByteArray, len = ks.length ∧ ks.length ≤ cap ∧ Kd.C Kd.string W A ks.length ks ∧ ks.length ≤ Rows.uptoBulk d ∧ ∀ k ∈ ks, k.size ≤ Rows.uptoBulk d := by
  obtain ⟨fuel, hf⟩ := h
  rcases open_strings Try.underlying22 Try.underlying9 (by kernel_rfl) hf with ⟨hcs, hx⟩ | ⟨a, l, c, ss, hcs, _, hl, hm, hz, hx, hcell, _⟩
  · simp [Value.cells] at hcs
    obtain ⟨rfl, rfl, rfl⟩ := hcs
    exact ⟨[], rfl, Nat.le_refl _, Kc_nil _ _, Nat.zero_le _, fun k hk => by cases hk⟩
  · simp [Value.cells] at hcs
    obtain ⟨rfl, rfl, rfl⟩ := hcs
    have hle : len ≤ ss.length := by rw [hz]; split <;> omega
    have hlen : (ss.take len).length = len := by rw [List.length_take]; omega
    simp only [Prod.mk.injEq] at hx
    obtain ⟨rfl, _⟩ := hx
    refine ⟨ss.take len, hlen.symm, by omega, ?_, ?_, ?_⟩
    · refine Kc_of_reads (d := ByteArray.empty) ⟨rfl, by rw [hlen]; unfold maxLen at hm; omega, fun _ => ⟨a, rfl, fun j hj => ?_⟩⟩
      rw [hcell j (by omega)]
      congr 2
      rw [List.getD_eq_getElem?_getD, List.getD_eq_getElem?_getD, List.getElem?_take]
      rw [if_pos (by omega)]
    · have := bulk_slice (H := H) (strs (ss.take len)) (strs (ss.drop len))
      have e : (strs (H := H) (ss.take len)).length = (ss.take len).length := by simp [strs]
      omega
    · intro k hk
      have h1 : (DataW.lit (.string k.data.toList) : DataW H) ∈ strs (H := H) (ss.take len) := List.mem_map.2 ⟨k, hk, rfl⟩
      have h2 := bulk_part h1
      simp only [Rows.uptoBulk] at h2 ⊢
      have h3 : k.data.toList.length = k.size := by rw [Array.length_toList]; rfl
      omega
end Go.Proofs.Ytjabcdfbncglnaa.Opn
