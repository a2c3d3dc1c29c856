/- WHAT IS PROVED: the reference's Pivots. -/
import Derived.Test.YtknpkfjaffhejaaVr
import Derived.Test.YtknpkfjaffhejaaNm
import Derived.Test.YtknpkfjaffhejaaSd
namespace Go.Proofs.Ytknpkfjaffhejaa
open Go.RowKit Go.Sort Go.Lib Go.Proofs.YtknpkfjaffhejaaW.PrintWords Go.Proofs.YtknpkfjaffhejaaW.PrintLast Go.Proofs.YtknpkfjaffhejaaW.PrintMore
set_option linter.unusedVariables false
set_option linter.unusedSimpArgs false

/-- The names in which dangers meet. -/
def refP (D : List (Edge × Edge)) : List ByteArray := insAll blt (D.map fun x => x.1.q)
theorem refP_step (D : List (Edge × Edge)) (i : Nat) (hi : i < D.length) : refP (D.take (i + 1)) = ins blt (refP (D.take i)) D[i]!.1.q := by
  rw [getElem!_pos D i hi, List.take_succ_eq_append_getElem hi]
  unfold refP
  rw [List.map_append, List.map_cons, List.map_nil, insAll_snoc]
theorem refP_len (D : List (Edge × Edge)) : (refP D).length ≤ D.length := by
  have := insAll_len (lt := blt) (D.map fun x => x.1.q)
  rwa [List.length_map] at this

set_option maxRecDepth 100000 in
set_option maxHeartbeats 8000000 in
theorem refP_calls (W : World) (v : Value) (l : List Edge) {m0 : Nat} (h : EdR m0 W v l) (hn : l.length ≤ 1048576) :
    Calls Try.prog 15 #[v] W fun e W' => Below W.heap.size W W' ∧ ∃ v', e = .returned v' ∧ W'.ownsRow W.heap.size 9 1 v' (refP (dangersE (refV l))).length ((refP (dangersE (refV l))).map Value.string) := by
  have h' := h
  obtain ⟨A, c, rfl, _⟩ := h'
  have hu31 := Try.underlying31
  have hu33 := Try.underlying33
  have hu29 := Try.underlying29
  have HC := Aside0.mk (refD_calls W _ l h hn)
  have hDL : (dangersE (refV l)).length ≤ 1099511627776 := dangers_len _ (Nat.le_trans (refV_len l) hn)
  generalize dangersE (refV l) = D at *
  clear h
  go_enter Try.func15, Try.ntmps15
  go_wp2_with (go_at_call 11; refine HC.out.mono ?_; rintro e W1 ⟨hb1, v1, rfl, how1⟩; obtain ⟨A1, c1, rfl⟩ := owns_form how1; have HB1 := Aside0.mk (And.intro hb1 how1); clear hb1 how1)
  go_loopw [3, 5] (fun v3 v wr => ∃ i : Nat, v = .int .i64 (i : Nat) ∧ i ≤ D.length ∧ ∃ A3 c3, v3 = .slice A3 (refP (D.take i)).length c3 ∧ Aside0 (Below W1.heap.size W1 wr ∧ wr.ownsRow W1.heap.size 9 1 (.slice A3 (refP (D.take i)).length c3) (refP (D.take i)).length ((refP (D.take i)).map Value.string))) (fun _ v wr => D.length - (RowKit.intOf v).toNat)
  case atStart => exact ⟨0, rfl, Nat.zero_le _, none, 0, rfl, ⟨Below.refl _ _, World.ownsRow_nil _ _ _ _⟩⟩
  case round =>
    obtain ⟨i, rfl, hi, A3, c3, rfl, HI⟩ := hrel
    by_cases hlt : i < D.length
    · have d1 : decide (((i : Nat) : Int) < ((D.length : Nat) : Int)) = true := decide_eq_true (by omega)
      have p0 : ((0 : Int) ≤ ((i : Nat) : Int)) = True := eq_true (by omega)
      have p1 : (((i : Nat) : Int) < ((D.length : Nat) : Int)) = True := eq_true (by omega)
      obtain ⟨_, b, off, rfl, hy⟩ := ((DaR.of_owns HB1.out.2).below HI.out.1).cells i hlt
      have HST := Aside0.mk (refP_step D i hlt)
      have hlr : (refP (D.take i)).length ≤ 1099511627776 := by
        have := refP_len (D.take i)
        rw [List.length_take] at this
        omega
      have HPC := Aside0.mk (name_calls wr _ (refP (D.take i)) D[i]!.1.q HI.out.2 HI.out.1.size hlr)
      have y2 : wr.cell? ⟨b, off + i * 12 + 2, none⟩ = some (.string D[i]!.1.q) := hy 2 (by omega)
      generalize D[i]!.1.q = q at *
      clear hy hlr
      go_wp2_with (go_at_call 26; refine HPC.out.mono ?_; rintro e W2 ⟨hb2, v2, rfl, how2⟩; obtain ⟨A4, c4, rfl⟩ := owns_form how2; have HB2 := Aside0.mk (And.intro hb2 how2); clear hb2 how2)
      go_roundw
      case measure => show D.length - (i + 1) < D.length - i; omega
      case rel => exact ⟨i + 1, by first | rfl | (simp; done), by omega, A4, c4, by rw [HST.out], by rw [HST.out]; exact ⟨below_to HI.out.1 HB2.out.1, HB2.out.2⟩⟩
    · have d1 : decide (((i : Nat) : Int) < ((D.length : Nat) : Int)) = false := decide_eq_false (by omega)
      obtain rfl : i = D.length := by omega
      have HF : Aside0 (Below W.heap.size W wr ∧ wr.ownsRow W.heap.size 9 1 (.slice A3 (refP (D.take D.length)).length c3) (refP D).length ((refP D).map Value.string)) := ⟨by
        have := HI.out
        rw [List.take_length] at this ⊢
        exact ⟨below_to HB1.out.1 this.1, owns_mono this.2 HB1.out.1.size⟩⟩
      go_wp2_with fail
      go_ret
      exact ⟨HF.out.1, _, rfl, HF.out.2⟩
end Go.Proofs.Ytknpkfjaffhejaa
