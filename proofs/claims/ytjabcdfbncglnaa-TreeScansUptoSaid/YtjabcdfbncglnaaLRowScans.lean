/- WHAT IS PROVED: TreeScans answers true for every order, keys and script, where what it reads is of bulk at most 1048576. -/
import Derived.Test.YtjabcdfbncglnaaLB0
import Derived.Test.YtjabcdfbncglnaaLB12
import Derived.Test.YtjabcdfbncglnaaLSs
namespace Go.Proofs.Ytjabcdfbncglnaa.treeScans
open Go.ChangeShapes Go.WideShapes Go.ChangeAt Go.RowKit Go.Proofs.YtjabcdfbncglnaaW.PrintWords
open Go.ChangeMaps (open_string shut_string)
open Opn
set_option linter.unusedVariables false

set_option maxRecDepth 100000 in
theorem lifted (os : Os) (started : os.Started) (H : Type) (enc : TypeId × Value → H) (F : Stop.Interp) :
    ReturnsInHanded {} Try.checked os 6 .any ((Rows.OpenSpec.upto Rows.treeScansSpec).pre6 enc Try.prog Try.f6 Rows.treeScansUptoRow.domain false) (((Rows.OpenSpec.upto Rows.treeScansSpec).at F).post enc Try.prog Try.f6 false true false false) := by
  refine returnsInHanded_of_cond (C := Try.checked) (s := Rows.OpenSpec.upto Rows.treeScansSpec) (k := Rows.uptoSmall) rfl own started (by kernel_rfl) Try.func6
    (OpenSpec.witness (enc := enc) (C := Try.checked) (s := Rows.OpenSpec.upto Rows.treeScansSpec) (k := Rows.uptoSmall) rfl false ⟨#[], #[.int .i64 0, .slice none 0 0, .slice none 0 0], []⟩ 8 (by kernel_rfl) (by kernel_rfl) (by kernel_rfl)
      (x := ([.lit (.int .i64 0), .nil, .nil], [], [])) (by kernel_rfl) rfl (by kernel_rfl)) ?_
  intro W base args ds gs before hval hW _ hk _
  have hW' := hW
  obtain ⟨p, q, hA0, hV, rfl, hfz, hnd⟩ := hW
  have hA : DataW.TrodAll enc Try.prog W 0 (fun _ => true) true Try.f6.params.toList args.toList ds p := hA0
  rw [Try.params6] at hA hval
  obtain ⟨v0, vs0, d0, ds0, p0, q0, hargs, rfl, rfl, h0, r0⟩ := trodAll_cons hA
  obtain ⟨v1, vs1, d1, ds1, p1, q1, rfl, rfl, rfl, h1, r1⟩ := trodAll_cons r0
  obtain ⟨v2, vs2, d2, ds2, p2, q2, rfl, rfl, rfl, h2, r2⟩ := trodAll_cons r1
  obtain ⟨rfl, rfl, rfl⟩ := trodAll_nil r2
  obtain rfl : args = #[v0, v1, v2] := by cases args; simp_all
  obtain ⟨rfl, rfl⟩ := trodVars_none hV
  obtain ⟨a0, rfl, rfl, rfl, w0⟩ := open_int Try.underlying3 (hval 0 3 v0 rfl rfl) h0
  obtain ⟨a1, len1, cap1, rfl⟩ := okWide_slice Try.underlying22 (hval 1 22 v1 rfl rfl)
  have lt1 : ∀ x ∈ p1, x.block < W.heap.size := by obtain ⟨m, hm⟩ := h1; exact DataW.trod_lt m _ _ _ hm
  obtain ⟨ks, rfl, hc, hC, hn, hz⟩ := keys_read h1
  obtain ⟨a2, len2, cap2, rfl⟩ := okWide_slice Try.underlying48 (hval 2 48 v2 rfl rfl)
  have lt2 : ∀ x ∈ p2, x.block < W.heap.size := by obtain ⟨m, hm⟩ := h2; exact DataW.trod_lt m _ _ _ hm
  obtain ⟨gs2, rfl, hc2, hC2, hn2, hz2⟩ := ops_read h2
  have hb := bulk_bound hk
  have hd2 : Rows.uptoBulk d2 ≤ 1048576 := by
    have : Rows.uptoBulk d2 ≤ _ := bulk_part (l := ([DataW.lit (.int .i64 a0)] ++ ([d1] ++ [d2]) : List (DataW H))) (by simp)
    simp only [Rows.uptoBulkAll, List.cons_append, List.nil_append, List.append_nil] at this hb
    omega
  have hd1 : Rows.uptoBulk d1 ≤ 1048576 := by
    have : Rows.uptoBulk d1 ≤ _ := bulk_part (l := ([DataW.lit (.int .i64 a0)] ++ ([d1] ++ [d2]) : List (DataW H))) (by simp)
    simp only [Rows.uptoBulkAll, List.cons_append, List.nil_append, List.append_nil] at this hb
    omega
  have hw : Calls Try.prog 6 #[.int .i64 a0, .slice a1 ks.length cap1, .slice a2 gs2.length cap2] W fun e w' => e = .returned (.bool true) ∧ Below W.heap.size W w' := by
    by_cases hg : a0 < 3 ∨ 64 < a0
    · exact scans_bad a0 hg _ _ W
    · obtain ⟨n, rfl⟩ := Int.eq_ofNat_of_zero_le (show 0 ≤ a0 by omega)
      exact scans_good n (by omega) (by omega) a1 cap1 ks a2 cap2 gs2 W hC hc (by omega) (fun k hk => by have := hz k hk; omega) hC2 hc2 (by omega)
  clear hA0
  refine hw.mono fun e W' ⟨he, bel⟩ => ?_
  subst he
  exact ⟨_, rfl, _, _, _, [], _, [], hW', trodAll_mk1 (shut_bool Try.underlying4 _), (trodAll_cons_mk (shut_int Try.underlying3 w0) (trodAll_cons_mk (Below.trod laidOut (by kernel_rfl) (of_decide_eq_true (by kernel_rfl)) h1 bel lt1) (trodAll_cons_mk (Below.trod laidOut (by kernel_rfl) (of_decide_eq_true (by kernel_rfl)) h2 bel lt2) trodAll_mk0))), rfl, bel.frame _, fun h => by cases h⟩

theorem over : Rows.treeScansUptoRow.holds Try.pinned (Rows.OpenSpec.upto Rows.treeScansSpec) :=
  OpenClaim.holds_of_cond 6 Try.f6 rfl rfl rfl rfl rfl rfl rfl ⟨rfl, rfl, rfl, rfl, rfl⟩ rfl rfl rfl rfl rfl (by kernel_rfl) Try.func6 (by kernel_rfl)
    (of_decide_eq_true (by kernel_rfl)) (by unfold Func.isWrapper; first | (rw [if_pos (by decide +kernel)]; kernel_rfl) | (rw [if_neg (by decide +kernel)]; exact ⟨rfl, rfl⟩))
    (fun os started H enc _ F => lifted os started H enc F)
end Go.Proofs.Ytjabcdfbncglnaa.treeScans
namespace Go.Proofs.Ytjabcdfbncglnaa
theorem treeScansUpto_holds : Rows.TreeScansUptoSaid := treeScans.over
end Go.Proofs.Ytjabcdfbncglnaa
