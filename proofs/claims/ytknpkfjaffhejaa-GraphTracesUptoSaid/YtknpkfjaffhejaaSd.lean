/- WHAT IS PROVED: sameDangers and sameNames at equal lists. -/
import Derived.Test.YtknpkfjaffhejaaDd
namespace Go.Proofs.Ytknpkfjaffhejaa
open Go.RowKit Go.Sort Go.Lib Go.Proofs.YtknpkfjaffhejaaW.PrintWords Go.Proofs.YtknpkfjaffhejaaW.PrintLast Go.Proofs.YtknpkfjaffhejaaW.PrintMore
set_option linter.unusedVariables false
set_option linter.unusedSimpArgs false

theorem eqA33 (d : Nat) (w : World) (x0 y0 : ByteArray) (x1 y1 : Int) (x2 y2 : ByteArray) (x3 y3 : Int) (x4 y4 : Int) (x5 y5 : Bool) (x6 y6 : ByteArray) (x7 y7 : Int) (x8 y8 : ByteArray) (x9 y9 : Int) (xa ya : Int) (xb yb : Bool) :
    (Op.equalIn (d + 4) 33 (.agg #[.string x0, .int .i64 x1, .string x2, .int .i64 x3, .int .i64 x4, .bool x5, .string x6, .int .i64 x7, .string x8, .int .i64 x9, .int .i64 xa, .bool xb]) (.agg #[.string y0, .int .i64 y1, .string y2, .int .i64 y3, .int .i64 y4, .bool y5, .string y6, .int .i64 y7, .string y8, .int .i64 y9, .int .i64 ya, .bool yb])).run Try.prog w =
      .ok (((x0.toList == y0.toList && (x1 == y1)) && ((x2.toList == y2.toList && (x3 == y3)) && (x4 == y4 && (x5 == y5)))) && ((x6.toList == y6.toList && (x7 == y7)) && ((x8.toList == y8.toList && (x9 == y9)) && (xa == ya && (xb == yb))))) w := by
  refine eqA_of Try.underlying33 (by kernel_rfl) ?_
  refine eqf_cons (by rfl) (by go_simp) (by go_simp) (eqA31 (d + 0) w _ _ _ _ _ _ _ _ _ _ _ _) ?_
  exact eqf_last (by rfl) (by go_simp) (by go_simp) (eqA31 (d + 0) w _ _ _ _ _ _ _ _ _ _ _ _)
theorem neD (x : Edge × Edge) (w : World) : Sem.run Try.prog (binOp .neq 33 (.agg (encD x).toArray) (.agg (encD x).toArray)) w = .ok (.bool false) w := by
  obtain ⟨⟨p, n, q, m, k, v⟩, ⟨p', n', q', m', k', v'⟩⟩ := x
  rw [run_neq_struct, show (10000 : Nat) = 9996 + 4 from rfl]
  simp only [encD, encE, List.cons_append, List.nil_append]
  rw [eqA33]
  simp

theorem DaR.cells {W : World} {A : Option Addr} {n c : Nat} {l : List (Edge × Edge)} (h : DaR W (.slice A n c) l) (i : Nat) (hi : i < l.length) : n = l.length ∧ ∃ b off, A = some ⟨b, off, none⟩ ∧ ∀ j, j < 12 → W.cell? ⟨b, off + i * 12 + j, none⟩ = (encD l[i]!)[j]? := by
  obtain ⟨A', c', e, hA⟩ := h
  injection e with e1 e2 e3
  subst e1 e2
  have hl : l ≠ [] := fun e => by subst e; simp at hi
  obtain ⟨b, off, rfl, hc⟩ := hA hl
  refine ⟨rfl, b, off, rfl, fun j hj => ?_⟩
  have e := flatD_get l (i * 12 + j) (by omega)
  rw [show (i * 12 + j) / 12 = i by omega, show (i * 12 + j) % 12 = j by omega] at e
  have hlt : j < (encD l[i]!).length := by rw [encD_len]; exact hj
  rw [List.getElem?_eq_getElem hlt] at e ⊢
  have := hc _ _ e
  rwa [← Nat.add_assoc] at this

theorem DaR.form {W : World} {v : Value} {l : List (Edge × Edge)} (h : DaR W v l) : ∃ A c, v = .slice A l.length c := by
  obtain ⟨A, c, rfl, _⟩ := h
  exact ⟨A, c, rfl⟩

set_option maxRecDepth 100000 in
set_option maxHeartbeats 8000000 in
theorem sameDangers_calls (W : World) (v v' : Value) (l : List (Edge × Edge)) (h : DaR W v l) (h' : DaR W v' l) (hl : l.length ≤ 1099511627776) :
    Calls Try.prog 12 #[v, v'] W fun e W' => e = .returned (.bool true) ∧ Gr W W' := by
  obtain ⟨A, c, rfl⟩ := h.form
  obtain ⟨A', c', rfl⟩ := h'.form
  have HH := Aside0.mk (And.intro h h')
  have hne := neD
  clear h h'
  have e1 : (((l.length : Nat) : Int) == ((l.length : Nat) : Int)) = true := by simp
  have e2 : (((l.length : Nat) : Int) != ((l.length : Nat) : Int)) = false := by simp
  have hu33 := Try.underlying33
  go_enter Try.func12, Try.ntmps12
  go_wp2_with fail
  go_loopw [13] (fun v wr => ∃ i : Nat, v = .int .i64 (i : Nat) ∧ i ≤ l.length ∧ Aside0 (Gr W wr)) (fun v wr => l.length - (RowKit.intOf v).toNat)
  case atStart => exact ⟨0, rfl, Nat.zero_le _, ⟨Gr.refl _⟩⟩
  case round =>
    obtain ⟨i, rfl, hi, HI⟩ := hrel
    by_cases hlt : i < l.length
    · have d1 : decide (((i : Nat) : Int) < ((l.length : Nat) : Int)) = true := decide_eq_true (by omega)
      have p0 : ((0 : Int) ≤ ((i : Nat) : Int)) = True := eq_true (by omega)
      have p1 : (((i : Nat) : Int) < ((l.length : Nat) : Int)) = True := eq_true (by omega)
      obtain ⟨_, b, off, rfl, hy⟩ := (HH.out.1.below HI.out.below).cells i hlt
      obtain ⟨_, b', off', rfl, hy'⟩ := (HH.out.2.below HI.out.below).cells i hlt
      have hne1 := fun w => hne l[i]! w
      obtain ⟨⟨⟨p, n, q, m, k, vv⟩, ⟨p', n', q', m', k', vv'⟩⟩, hxe⟩ : ∃ y, l[i]! = y := ⟨_, rfl⟩
      rw [hxe] at hy hy' hne1
      have hne2 : ∀ w, Sem.run Try.prog (binOp .neq 33 (.agg #[.string p, .int .i64 n, .string q, .int .i64 m, .int .i64 k, .bool vv, .string p', .int .i64 n', .string q', .int .i64 m', .int .i64 k', .bool vv']) (.agg #[.string p, .int .i64 n, .string q, .int .i64 m, .int .i64 k, .bool vv, .string p', .int .i64 n', .string q', .int .i64 m', .int .i64 k', .bool vv'])) w = .ok (.bool false) w := hne1
      have y0 : wr.cell? ⟨b, off + i * 12, none⟩ = some (.string p) := hy 0 (by omega)
      have y1 : wr.cell? ⟨b, off + i * 12 + 1, none⟩ = some (.int .i64 n) := hy 1 (by omega)
      have y2 : wr.cell? ⟨b, off + i * 12 + 2, none⟩ = some (.string q) := hy 2 (by omega)
      have y3 : wr.cell? ⟨b, off + i * 12 + 3, none⟩ = some (.int .i64 m) := hy 3 (by omega)
      have y4 : wr.cell? ⟨b, off + i * 12 + 4, none⟩ = some (.int .i64 k) := hy 4 (by omega)
      have y5 : wr.cell? ⟨b, off + i * 12 + 5, none⟩ = some (.bool vv) := hy 5 (by omega)
      have y6 : wr.cell? ⟨b, off + i * 12 + 6, none⟩ = some (.string p') := hy 6 (by omega)
      have y7 : wr.cell? ⟨b, off + i * 12 + 7, none⟩ = some (.int .i64 n') := hy 7 (by omega)
      have y8 : wr.cell? ⟨b, off + i * 12 + 8, none⟩ = some (.string q') := hy 8 (by omega)
      have y9 : wr.cell? ⟨b, off + i * 12 + 9, none⟩ = some (.int .i64 m') := hy 9 (by omega)
      have ya : wr.cell? ⟨b, off + i * 12 + 10, none⟩ = some (.int .i64 k') := hy 10 (by omega)
      have yb : wr.cell? ⟨b, off + i * 12 + 11, none⟩ = some (.bool vv') := hy 11 (by omega)
      have z0 : wr.cell? ⟨b', off' + i * 12, none⟩ = some (.string p) := hy' 0 (by omega)
      have z1 : wr.cell? ⟨b', off' + i * 12 + 1, none⟩ = some (.int .i64 n) := hy' 1 (by omega)
      have z2 : wr.cell? ⟨b', off' + i * 12 + 2, none⟩ = some (.string q) := hy' 2 (by omega)
      have z3 : wr.cell? ⟨b', off' + i * 12 + 3, none⟩ = some (.int .i64 m) := hy' 3 (by omega)
      have z4 : wr.cell? ⟨b', off' + i * 12 + 4, none⟩ = some (.int .i64 k) := hy' 4 (by omega)
      have z5 : wr.cell? ⟨b', off' + i * 12 + 5, none⟩ = some (.bool vv) := hy' 5 (by omega)
      have z6 : wr.cell? ⟨b', off' + i * 12 + 6, none⟩ = some (.string p') := hy' 6 (by omega)
      have z7 : wr.cell? ⟨b', off' + i * 12 + 7, none⟩ = some (.int .i64 n') := hy' 7 (by omega)
      have z8 : wr.cell? ⟨b', off' + i * 12 + 8, none⟩ = some (.string q') := hy' 8 (by omega)
      have z9 : wr.cell? ⟨b', off' + i * 12 + 9, none⟩ = some (.int .i64 m') := hy' 9 (by omega)
      have za : wr.cell? ⟨b', off' + i * 12 + 10, none⟩ = some (.int .i64 k') := hy' 10 (by omega)
      have zb : wr.cell? ⟨b', off' + i * 12 + 11, none⟩ = some (.bool vv') := hy' 11 (by omega)
      clear hy hy' hne hne1 hxe
      go_wp2_with fail
      have HSK : Aside0 (∀ W', Gr wr W' → ((W'.cell? ⟨b, off + i * 12, none⟩ = some (.string p) ∧ W'.cell? ⟨b, off + i * 12 + 1, none⟩ = some (.int .i64 n) ∧ W'.cell? ⟨b, off + i * 12 + 2, none⟩ = some (.string q) ∧ W'.cell? ⟨b, off + i * 12 + 3, none⟩ = some (.int .i64 m) ∧ W'.cell? ⟨b, off + i * 12 + 4, none⟩ = some (.int .i64 k) ∧ W'.cell? ⟨b, off + i * 12 + 5, none⟩ = some (.bool vv) ∧ W'.cell? ⟨b, off + i * 12 + 6, none⟩ = some (.string p') ∧ W'.cell? ⟨b, off + i * 12 + 7, none⟩ = some (.int .i64 n') ∧ W'.cell? ⟨b, off + i * 12 + 8, none⟩ = some (.string q') ∧ W'.cell? ⟨b, off + i * 12 + 9, none⟩ = some (.int .i64 m') ∧ W'.cell? ⟨b, off + i * 12 + 10, none⟩ = some (.int .i64 k') ∧ W'.cell? ⟨b, off + i * 12 + 11, none⟩ = some (.bool vv') ∧ W'.cell? ⟨b', off' + i * 12, none⟩ = some (.string p) ∧ W'.cell? ⟨b', off' + i * 12 + 1, none⟩ = some (.int .i64 n) ∧ W'.cell? ⟨b', off' + i * 12 + 2, none⟩ = some (.string q) ∧ W'.cell? ⟨b', off' + i * 12 + 3, none⟩ = some (.int .i64 m) ∧ W'.cell? ⟨b', off' + i * 12 + 4, none⟩ = some (.int .i64 k) ∧ W'.cell? ⟨b', off' + i * 12 + 5, none⟩ = some (.bool vv) ∧ W'.cell? ⟨b', off' + i * 12 + 6, none⟩ = some (.string p') ∧ W'.cell? ⟨b', off' + i * 12 + 7, none⟩ = some (.int .i64 n') ∧ W'.cell? ⟨b', off' + i * 12 + 8, none⟩ = some (.string q') ∧ W'.cell? ⟨b', off' + i * 12 + 9, none⟩ = some (.int .i64 m') ∧ W'.cell? ⟨b', off' + i * 12 + 10, none⟩ = some (.int .i64 k') ∧ W'.cell? ⟨b', off' + i * 12 + 11, none⟩ = some (.bool vv')) ∧ Gr wr W')) := ⟨fun W' hg => ⟨⟨cell_below hg.below y0, cell_below hg.below y1, cell_below hg.below y2, cell_below hg.below y3, cell_below hg.below y4, cell_below hg.below y5, cell_below hg.below y6, cell_below hg.below y7, cell_below hg.below y8, cell_below hg.below y9, cell_below hg.below ya, cell_below hg.below yb, cell_below hg.below z0, cell_below hg.below z1, cell_below hg.below z2, cell_below hg.below z3, cell_below hg.below z4, cell_below hg.below z5, cell_below hg.below z6, cell_below hg.below z7, cell_below hg.below z8, cell_below hg.below z9, cell_below hg.below za, cell_below hg.below zb⟩, hg⟩⟩
      go_region_held3 (fun W' => (W'.cell? ⟨b, off + i * 12, none⟩ = some (.string p) ∧ W'.cell? ⟨b, off + i * 12 + 1, none⟩ = some (.int .i64 n) ∧ W'.cell? ⟨b, off + i * 12 + 2, none⟩ = some (.string q) ∧ W'.cell? ⟨b, off + i * 12 + 3, none⟩ = some (.int .i64 m) ∧ W'.cell? ⟨b, off + i * 12 + 4, none⟩ = some (.int .i64 k) ∧ W'.cell? ⟨b, off + i * 12 + 5, none⟩ = some (.bool vv) ∧ W'.cell? ⟨b, off + i * 12 + 6, none⟩ = some (.string p') ∧ W'.cell? ⟨b, off + i * 12 + 7, none⟩ = some (.int .i64 n') ∧ W'.cell? ⟨b, off + i * 12 + 8, none⟩ = some (.string q') ∧ W'.cell? ⟨b, off + i * 12 + 9, none⟩ = some (.int .i64 m') ∧ W'.cell? ⟨b, off + i * 12 + 10, none⟩ = some (.int .i64 k') ∧ W'.cell? ⟨b, off + i * 12 + 11, none⟩ = some (.bool vv') ∧ W'.cell? ⟨b', off' + i * 12, none⟩ = some (.string p) ∧ W'.cell? ⟨b', off' + i * 12 + 1, none⟩ = some (.int .i64 n) ∧ W'.cell? ⟨b', off' + i * 12 + 2, none⟩ = some (.string q) ∧ W'.cell? ⟨b', off' + i * 12 + 3, none⟩ = some (.int .i64 m) ∧ W'.cell? ⟨b', off' + i * 12 + 4, none⟩ = some (.int .i64 k) ∧ W'.cell? ⟨b', off' + i * 12 + 5, none⟩ = some (.bool vv) ∧ W'.cell? ⟨b', off' + i * 12 + 6, none⟩ = some (.string p') ∧ W'.cell? ⟨b', off' + i * 12 + 7, none⟩ = some (.int .i64 n') ∧ W'.cell? ⟨b', off' + i * 12 + 8, none⟩ = some (.string q') ∧ W'.cell? ⟨b', off' + i * 12 + 9, none⟩ = some (.int .i64 m') ∧ W'.cell? ⟨b', off' + i * 12 + 10, none⟩ = some (.int .i64 k') ∧ W'.cell? ⟨b', off' + i * 12 + 11, none⟩ = some (.bool vv')) ∧ Gr wr W') (exact HSK.out _ (by repeat (first | assumption | exact Gr.refl _ | refine Gr.drew ?_ | refine Gr.alloc ?_ _))) (fail)
      rename_i hlast
      have hgr := hlast.2
      have HG := Aside0.mk hgr
      clear hlast hgr
      go_wp2_with fail
      go_roundw
      case measure => show l.length - (i + 1) < l.length - i; omega
      case rel => exact ⟨i + 1, by first | rfl | (simp; done), by omega, ⟨HI.out.trans HG.out⟩⟩
    · have d1 : decide (((i : Nat) : Int) < ((l.length : Nat) : Int)) = false := decide_eq_false (by omega)
      go_wp2_with fail
      go_ret
      exact ⟨rfl, HI.out⟩
end Go.Proofs.Ytknpkfjaffhejaa
