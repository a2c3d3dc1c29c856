/- WHAT IS PROVED: GraphTraces answers true for every edges, where what it reads is of bulk at most 1048576. -/
import Derived.Test.YtknpkfjaffhejaaOpn
import Derived.Test.YtknpkfjaffhejaaGt
namespace Go.Proofs.Ytknpkfjaffhejaa.graphTraces
open Go.ChangeShapes Go.WideShapes Go.ChangeAt Go.RowKit Go.Proofs.YtknpkfjaffhejaaW.PrintWords
open Opn
set_option linter.unusedVariables false

set_option maxRecDepth 100000 in
theorem lifted (os : Os) (started : os.Started) (H : Type) (enc : TypeId × Value → H) (F : Stop.Interp) :
    ReturnsInHanded {} Try.checked os 3 .any ((Rows.OpenSpec.upto Rows.graphTracesSpec).pre6 enc Try.prog Try.f3 Rows.graphTracesUptoRow.domain false) (((Rows.OpenSpec.upto Rows.graphTracesSpec).at F).post enc Try.prog Try.f3 false true false false) := by
  refine returnsInHanded_of_cond (C := Try.checked) (s := Rows.OpenSpec.upto Rows.graphTracesSpec) (k := Rows.uptoSmall) rfl own started (by kernel_rfl) Try.func3
    (OpenSpec.witness (enc := enc) (C := Try.checked) (s := Rows.OpenSpec.upto Rows.graphTracesSpec) (k := Rows.uptoSmall) rfl false ⟨#[], #[.slice none 0 0], []⟩ 8 (by kernel_rfl) (by kernel_rfl) (by kernel_rfl)
      (x := ([.nil], [], [])) (by kernel_rfl) rfl (by kernel_rfl)) ?_
  intro W base args ds gs before hval hW _ hk _
  have hW' := hW
  obtain ⟨p, q, hA0, hV, rfl, hfz, hnd⟩ := hW
  have hA : DataW.TrodAll enc Try.prog W 0 (fun _ => true) true Try.f3.params.toList args.toList ds p := hA0
  rw [Try.params3] at hA hval
  obtain ⟨v0, vs0, d0, ds0, p0, q0, hargs, rfl, rfl, h0, r0⟩ := trodAll_cons hA
  obtain ⟨rfl, rfl, rfl⟩ := trodAll_nil r0
  obtain rfl : args = #[v0] := by cases args; simp_all
  obtain ⟨rfl, rfl⟩ := trodVars_none hV
  obtain ⟨a0, len0, cap0, rfl⟩ := okWide_slice Try.underlying22 (hval 0 22 v0 rfl rfl)
  have lt0 : ∀ x ∈ p0, x.block < W.heap.size := by obtain ⟨m, hm⟩ := h0; exact DataW.trod_lt m _ _ _ hm
  have hcap := edges_cap h0
  obtain ⟨l, rfl, hE, hn, hz⟩ := edges_read h0
  have hb := bulk_bound hk
  have hd0 : Rows.uptoBulk d0 ≤ 1048576 := by
    have : Rows.uptoBulk d0 ≤ _ := bulk_part (l := ([d0] : List (DataW H))) (by simp)
    simp only [Rows.uptoBulkAll, List.append_nil] at this hb
    omega
  have hw : Calls Try.prog 3 #[.slice a0 l.length cap0] W fun e w' => e = .returned (.bool true) ∧ Below W.heap.size W w' := graphTraces_calls W a0 cap0 l hE hcap (by omega) hz
  clear hA0
  refine hw.mono fun e W' ⟨he, bel⟩ => ?_
  subst he
  exact ⟨_, rfl, _, _, _, [], _, [], hW', trodAll_mk1 (shut_bool Try.underlying4 _), (trodAll_cons_mk (Below.trod laidOut (by kernel_rfl) (of_decide_eq_true (by kernel_rfl)) h0 bel lt0) trodAll_mk0), rfl, bel.frame _, fun h => by cases h⟩

theorem over : Rows.graphTracesUptoRow.holds Try.pinned (Rows.OpenSpec.upto Rows.graphTracesSpec) :=
  OpenClaim.holds_of_cond 3 Try.f3 rfl rfl rfl rfl rfl rfl rfl ⟨rfl, rfl, rfl, rfl, rfl⟩ rfl rfl rfl rfl rfl (by kernel_rfl) Try.func3 (by kernel_rfl)
    (of_decide_eq_true (by kernel_rfl)) (by unfold Func.isWrapper; first | (rw [if_pos (by decide +kernel)]; kernel_rfl) | (rw [if_neg (by decide +kernel)]; exact ⟨rfl, rfl⟩))
    (fun os started H enc _ F => lifted os started H enc F)
end Go.Proofs.Ytknpkfjaffhejaa.graphTraces
namespace Go.Proofs.Ytknpkfjaffhejaa
theorem graphTracesUpto_holds : Rows.GraphTracesUptoSaid := graphTraces.over
end Go.Proofs.Ytknpkfjaffhejaa
