/- WHAT IS PROVED: TreePlays answers true for every order and script, where what it reads is of bulk at most 1048576. -/
import Derived.Test.YtjabcdfbncglnaaLB12
import Derived.Test.YtjabcdfbncglnaaLPl
namespace Go.Proofs.Ytjabcdfbncglnaa.treePlays
open Go.ChangeShapes Go.WideShapes Go.ChangeAt Go.RowKit Go.Proofs.YtjabcdfbncglnaaW.PrintWords
open Go.ChangeMaps (open_string shut_string)
open Opn
set_option linter.unusedVariables false

set_option maxRecDepth 100000 in
theorem lifted (os : Os) (started : os.Started) (H : Type) (enc : TypeId × Value → H) (F : Stop.Interp) :
    ReturnsInHanded {} Try.checked os 8 .any ((Rows.OpenSpec.upto Rows.treePlaysSpec).pre6 enc Try.prog Try.f8 Rows.treePlaysUptoRow.domain false) (((Rows.OpenSpec.upto Rows.treePlaysSpec).at F).post enc Try.prog Try.f8 false true false false) := by
  refine returnsInHanded_of_cond (C := Try.checked) (s := Rows.OpenSpec.upto Rows.treePlaysSpec) (k := Rows.uptoSmall) rfl own started (by kernel_rfl) Try.func8
    (OpenSpec.witness (enc := enc) (C := Try.checked) (s := Rows.OpenSpec.upto Rows.treePlaysSpec) (k := Rows.uptoSmall) rfl false ⟨#[], #[.int .i64 0, .slice none 0 0], []⟩ 8 (by kernel_rfl) (by kernel_rfl) (by kernel_rfl)
      (x := ([.lit (.int .i64 0), .nil], [], [])) (by kernel_rfl) rfl (by kernel_rfl)) ?_
  intro W base args ds gs before hval hW _ hk _
  have hW' := hW
  obtain ⟨p, q, hA0, hV, rfl, hfz, hnd⟩ := hW
  have hA : DataW.TrodAll enc Try.prog W 0 (fun _ => true) true Try.f8.params.toList args.toList ds p := hA0
  rw [Try.params8] at hA hval
  obtain ⟨v0, vs0, d0, ds0, p0, q0, hargs, rfl, rfl, h0, r0⟩ := trodAll_cons hA
  obtain ⟨v1, vs1, d1, ds1, p1, q1, rfl, rfl, rfl, h1, r1⟩ := trodAll_cons r0
  obtain ⟨rfl, rfl, rfl⟩ := trodAll_nil r1
  obtain rfl : args = #[v0, v1] := by cases args; simp_all
  obtain ⟨rfl, rfl⟩ := trodVars_none hV
  obtain ⟨a0, rfl, rfl, rfl, w0⟩ := open_int Try.underlying3 (hval 0 3 v0 rfl rfl) h0
  obtain ⟨a1, len1, cap1, rfl⟩ := okWide_slice Try.underlying48 (hval 1 48 v1 rfl rfl)
  have lt1 : ∀ x ∈ p1, x.block < W.heap.size := by obtain ⟨m, hm⟩ := h1; exact DataW.trod_lt m _ _ _ hm
  obtain ⟨ks, rfl, hc, hC, hn, hz⟩ := ops_read h1
  have hb := bulk_bound hk
  have hd1 : Rows.uptoBulk d1 ≤ 1048576 := by
    have : Rows.uptoBulk d1 ≤ _ := bulk_part (l := ([DataW.lit (.int .i64 a0)] ++ [d1] : List (DataW H))) (by simp)
    simp only [Rows.uptoBulkAll, List.cons_append, List.nil_append, List.append_nil] at this hb
    omega
  have hw : Calls Try.prog 8 #[.int .i64 a0, .slice a1 ks.length cap1] W fun e w' => e = .returned (.bool true) ∧ Below W.heap.size W w' := by
    by_cases hg : a0 < 3 ∨ 64 < a0
    · exact treePlays_calls (plays_bad a0 hg _ W)
    · obtain ⟨n, rfl⟩ := Int.eq_ofNat_of_zero_le (show 0 ≤ a0 by omega)
      exact treePlays_calls (plays_good n (by omega) (by omega) a1 cap1 ks W hC hc (by omega) (fun k hk => by have := (hz k hk).1; omega))
  clear hA0
  refine hw.mono fun e W' ⟨he, bel⟩ => ?_
  subst he
  exact ⟨_, rfl, _, _, _, [], _, [], hW', trodAll_mk1 (shut_bool Try.underlying4 _), (trodAll_cons_mk (shut_int Try.underlying3 w0) (trodAll_cons_mk (Below.trod laidOut (by kernel_rfl) (of_decide_eq_true (by kernel_rfl)) h1 bel lt1) trodAll_mk0)), rfl, bel.frame _, fun h => by cases h⟩

theorem over : Rows.treePlaysUptoRow.holds Try.pinned (Rows.OpenSpec.upto Rows.treePlaysSpec) :=
  OpenClaim.holds_of_cond 8 Try.f8 rfl rfl rfl rfl rfl rfl rfl ⟨rfl, rfl, rfl, rfl, rfl⟩ rfl rfl rfl rfl rfl (by kernel_rfl) Try.func8 (by kernel_rfl)
    (of_decide_eq_true (by kernel_rfl)) (by unfold Func.isWrapper; first | (rw [if_pos (by decide +kernel)]; kernel_rfl) | (rw [if_neg (by decide +kernel)]; exact ⟨rfl, rfl⟩))
    (fun os started H enc _ F => lifted os started H enc F)
end Go.Proofs.Ytjabcdfbncglnaa.treePlays
namespace Go.Proofs.Ytjabcdfbncglnaa
theorem treePlaysUpto_holds : Rows.TreePlaysUptoSaid := treePlays.over
end Go.Proofs.Ytjabcdfbncglnaa
