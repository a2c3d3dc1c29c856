/- WHAT IS PROVED: the iterator over a tree hands over the elements from a key on and below another one, for every loop body that leaves the nodes. -/
import Derived.Test.YtjabcdfbncglnaaLSn
import Derived.Test.YtjabcdfbncglnaaLStT
import Derived.RangeFuncNested
import Derived.RangeFuncBound
import Derived.RangeFuncCalls
import Derived.RangeFuncLeaves
import Derived.RangeFuncFrom
import Derived.Shelf.Abstract
import Derived.Shelf.RegionOpen
import Derived.OwnWalkIn
import Derived.TacticsInMore
import Derived.LoopNIn
import Derived.LoopIn
import Derived.Outline
namespace Go.Proofs.Ytjabcdfbncglnaa
open Go.RowKit Go.Shelf Go.Proofs.YtjabcdfbncglnaaW.PrintWords Go.Proofs.YtjabcdfbncglnaaW.PrintLast Go.Proofs.YtjabcdfbncglnaaW.PrintMore
open PTreeRanks (S59 k59 z59)
attribute [local go_sem] Oper.semAt_some
set_option linter.unusedVariables false
set_option linter.unusedSimpArgs false

/-- The blocks that are ok lie as they lay. -/
def KeptIn (ok : Nat → Prop) (W W' : World) : Prop := ∀ k, ok k → W'.heap[k]? = W.heap[k]?
theorem KeptIn.refl (ok : Nat → Prop) (W : World) : KeptIn ok W W := fun _ _ => rfl
theorem KeptIn.trans {ok : Nat → Prop} {A B C : World} (h : KeptIn ok A B) (k : KeptIn ok B C) : KeptIn ok A C := fun i hi => (k i hi).trans (h i hi)

/-- What the iterator's helper answers. -/
def ScanPost (ok : Nat → Prop) (J Jx : List S59 → World → Prop) (pre r : List S59) (W : World) (e : Ending) (W' : World) : Prop :=
  (e = .returned (.bool true) ∧ J (pre ++ r) W' ∧ KeptIn ok W W') ∨ (e = .returned (.bool false) ∧ ∃ q, q <+: r ∧ Jx (pre ++ q) W')

def YieldOk (l N : Nat) (ok : Nat → Prop) (J Jx : List S59 → World → Prop) : Prop :=
  ∀ m pre x W, J pre W → pre.length < N → YieldAt Fence.wide m Try.prog l #[.string x.f0, .int .i64 x.f1] W fun e W' => (e = .returned (.bool true) ∧ J (pre ++ [x]) W' ∧ KeptIn ok W W') ∨ (e = .returned (.bool false) ∧ Jx (pre ++ [x]) W')

set_option maxRecDepth 100000 in
set_option maxHeartbeats 8000000 in
theorem scan_leaf {l N : Nat} {ok : Nat → Prop} {J Jx : List S59 → World → Prop} (hD : ∀ pre W n, J pre W → J pre (W.drewN n)) (hY : YieldOk l N ok J Jx) (f u : ByteArray) (t : List S59) (v : Value) (pre : List S59) (W : World)
    (hs : SortedK (keysOf t)) (hn : t.length ≤ 900) (hM : (NK 0).M W 0 ok t [v]) (hJ : J pre W) (hN : pre.length + (scanL f u t).length ≤ N) :
    Calls Try.prog 47 #[v, .string f, .string u, .func (.yield l) #[] #[]] W (ScanPost ok J Jx pre (scanL f u t) W) := by
  obtain ⟨b, A, c, A', c', rfl, x0, x1, hc, hc', hA, hA'⟩ := leaf_open ((NK 0).K_of_M hM)
  obtain ⟨nb, hb⟩ := search_ok (ks := keysOf t) f hs (by rw [keysOf_length]; omega)
  have hkl := keysOf_length t
  have HBS := Aside0.mk (PTreeRanks.slices_BinarySearch_string_string.calls nb A c (keysOf t) f _ _ W (by rw [hkl]; exact hA) (by rw [hkl]; exact hc) hb)
  rw [hkl] at HBS
  have hrl := rank_le (keysOf t) f
  rw [hkl] at hrl
  have hlow := leaf_low (u := u) (f := f) hs
  have HLOW := Aside0.mk hlow
  have HST := Aside0.mk (leaf_step (f := f) (u := u) hs)
  have HHI := Aside0.mk (leaf_high (f := f) (u := u) hs)
  have HM := Aside0.mk hM
  have HD := Aside0.mk hD
  have HJ := Aside0.mk hJ
  have HY := Aside0.mk hY
  have HN := Aside0.mk hN
  clear hM hb hA hA' hlow hs hD hJ hN hY hkl
  generalize rank (keysOf t) f = r at *
  generalize has (keysOf t) f = th at *
  refine (callsIn_wide (n := 5)).1 ?_
  refine callsIn_of_wp Try.func47 rfl trivial ?_ rfl
  simp only [Try.ntmps47, List.size_toArray, List.length_cons, List.length_nil, Nat.reduceAdd, Nat.reduceSub, Array.replicate_succ, Array.replicate_zero, List.push_toArray, List.append_toArray, List.nil_append, List.cons_append]
  have k1 := ta_leaf
  have k2 := ta_leaf_no
  gi_wp2_with fail
  refine ⟨trivial, (callsIn_wide.2 HBS.out).mono ?_⟩
  rintro e w1 ⟨rfl, ⟨nd, rfl⟩⟩
  have HJ1 := Aside0.mk (HD.out _ _ nd HJ.out)
  have HK1 : Aside0 (KeptIn ok W (W.drewN nd)) := ⟨fun _ _ => rfl⟩
  clear HBS HJ x0 x1
  gi_wp2_with fail
  gi_loopw [12] (fun v wr => ∃ i : Nat, v = .int .i64 (i : Nat) ∧ r ≤ i ∧ i ≤ t.length ∧ Aside0 (J (pre ++ scanL f u (t.take i)) wr ∧ KeptIn ok W wr)) (fun v wr => t.length - (RowKit.intOf v).toNat)
  case atStart => exact ⟨r, rfl, Nat.le_refl _, hrl, ⟨by rw [HLOW.out, List.append_nil]; exact HJ1.out, HK1.out⟩⟩
  case round =>
    clear HJ1 HK1
    obtain ⟨i, rfl, hri, hit, ⟨hJ, hK⟩⟩ := hrel
    have hM := (NK 0).M_move hK HM.out
    obtain ⟨b2, A, c, A', c', e2, x0, x1, hc, hc', hA, hA'⟩ := leaf_open ((NK 0).K_of_M hM)
    injection e2 with _ e2
    injection e2 with e2
    injection e2 with e2
    injection e2 with e2
    subst e2
    have HK := Aside0.mk hK
    by_cases hlt : i < t.length
    · have b1 : decide (((i : Nat) : Int) < ((t.length : Nat) : Int)) = true := decide_eq_true (by omega)
      have p0 : ((0 : Int) ≤ ((i : Nat) : Int)) = True := eq_true (by omega)
      have p1 : (((i : Nat) : Int) < ((t.length : Nat) : Int)) = True := eq_true (by omega)
      obtain ⟨ad, rfl, hcell⟩ := C_scalar hA i (by rw [List.length_map]; exact hlt)
      obtain ⟨ad', rfl, hcell'⟩ := C_scalar hA' i (by rw [List.length_map]; exact hlt)
      rw [List.getElem_map] at hcell hcell'
      have HSTi := Aside0.mk (HST.out i hlt hri)
      have HHIi := Aside0.mk (HHI.out i hlt)
      have hmem : t.length = t.length := rfl
      have HY2 := Aside0.mk (HY.out 4 (pre ++ scanL f u (t.take i)) t[i])
      have HJ := Aside0.mk hJ
      have HM2 := Aside0.mk hM
      have HLE : Aside0 (blt t[i].f0 u = true → (pre ++ scanL f u (t.take i)).length < N) := ⟨fun hu => by
        have h1 := HSTi.out hu
        have h2 := HN.out
        have h3 : (scanL f u (t.take (i + 1))).length ≤ (scanL f u t).length := by
          conv => rhs; rw [← List.take_append_drop (i + 1) t]
          rw [scanL_append, List.length_append]
          omega
        rw [h1, List.length_append, List.length_singleton] at h3
        rw [List.length_append]
        omega⟩
      have HPF : Aside0 (∃ z, scanL f u t = scanL f u (t.take (i + 1)) ++ z) := ⟨⟨scanL f u (t.drop (i + 1)), by rw [← scanL_append, List.take_append_drop]⟩⟩
      generalize t[i] = y at *
      clear hA hA' hJ hK hM hmem
      replace hcell : wr.cell? (ad.add i) = some (.string y.f0) := hcell
      replace hcell' : wr.cell? (ad'.add i) = some (.int .i64 y.f1) := hcell'
      cases hu : blt y.f0 u with
      | false =>
        have hu' : Op.bytesLess y.f0.toList u.toList = false := hu
        gi_wp2_with fail
        go_ret
        exact .inl ⟨rfl, by rw [HHIi.out hu]; exact HJ.out, HK.out⟩
      | true =>
        have hu' : Op.bytesLess y.f0.toList u.toList = true := hu
        gi_wp2_with fail
        refine wpIn_region_still_tail 15 (by kernel_rfl) (by kernel_rfl) ?_
        simp only [List.take_succ_cons, List.take_zero, List.drop_succ_cons, List.drop_zero]
        repeat still_step
        try refine wpStill_nil ?_
        change wpListIn _ _ _ _ _ _ _ wr.drew
        have HJ2 : Aside0 (J (pre ++ scanL f u (t.take i)) wr.drew) := ⟨HD.out _ _ 1 HJ.out⟩
        have HK2 : Aside0 (KeptIn ok W wr.drew) := HK
        obtain ⟨fn, tmps, assign, body, hy, hR⟩ := HY2.out wr.drew HJ2.out (HLE.out hu)
        have HR := Aside0.mk hR
        clear hR hcell hcell' x0 x1
        generalize wr.drew = W2 at *
        gi_wp2_with fail
        refine HR.out.mono ?_
        rintro e W3 (⟨rfl, hJ3, hk3⟩ | ⟨rfl, hJx3⟩)
        · have HJ3 : Aside0 (J (pre ++ scanL f u (t.take (i + 1))) W3 ∧ KeptIn ok W W3) := ⟨by rw [HSTi.out hu, ← List.append_assoc]; exact hJ3, HK2.out.trans hk3⟩
          clear hJ3 hk3 HR
          gi_wp2_with fail
          go_roundw
          case measure => show t.length - (i + 1) < t.length - i; omega
          case rel => exact ⟨i + 1, by first | rfl | (simp; done) | (congr 1), by omega, hlt, HJ3⟩
        · have HJX := Aside0.mk hJx3
          clear hJx3 HR
          gi_wp2_with fail
          go_ret
          refine .inr ⟨rfl, scanL f u (t.take i) ++ [y], ?_, by rw [← List.append_assoc]; exact HJX.out⟩
          obtain ⟨z, hz⟩ := HPF.out
          rw [hz, HSTi.out hu]
          exact List.prefix_append _ _
    · have b1 : decide (((i : Nat) : Int) < ((t.length : Nat) : Int)) = false := decide_eq_false (by omega)
      obtain rfl : i = t.length := by omega
      rw [List.take_length] at hJ
      have HJ := Aside0.mk hJ
      clear hJ hK hA hA' hM
      gi_wp2_with fail
      go_ret
      exact .inl ⟨rfl, HJ.out, HK.out⟩

theorem inner_openM {w : World} {ok : Nat → Prop} {d : Nat} {ks : List ByteArray} {cs : List (T d)} {v : Value} (h : (NK (d + 1)).M w 0 ok ((ks, cs) : List ByteArray × List (T d)) [v]) :
    ∃ b A c A' c', v = .iface 78 (.pointer (some ⟨b, 0, none⟩)) ∧ w.cell? ⟨b, 0, none⟩ = some (.slice A ks.length c) ∧ w.cell? ⟨b, 1, none⟩ = some (.slice A' cs.length c') ∧ ks.length ≤ c ∧ cs.length ≤ c' ∧ Kd.C Kd.string w A ks.length ks ∧
      ∀ i (hi : i < cs.length), ∃ ad vk, A' = some ad ∧ w.cell? (ad.add i) = some vk ∧ (NK d).M w 0 ok cs[i] [vk] := by
  obtain ⟨b, kv, cv, rfl, hob, hh, hk, hc⟩ := inner_M.1 h
  obtain ⟨A, c, rfl, hkc, hC⟩ := FRow_reads hk
  obtain ⟨vs, ho, he, _⟩ := CRow_own hc
  obtain ⟨A', c', rfl, hcc, _, hl, hcell⟩ := own_cells ho
  refine ⟨b, A, c, A', c', rfl, (blk_cell hh 0).trans rfl, (blk_cell hh 1).trans rfl, hkc, hcc, hC, fun i hi => ?_⟩
  obtain ⟨ad, e, hcell⟩ := hcell (by omega)
  have hv : vs[i]? = some (vs[i]'(by omega)) := List.getElem?_eq_getElem _
  exact ⟨ad, _, e, hcell i _ hv, he.2 i _ _ (List.getElem?_eq_getElem hi) hv⟩

set_option maxRecDepth 100000 in
set_option maxHeartbeats 8000000 in
theorem scan_calls {order : Nat} (h3 : 3 ≤ order) (h4 : order ≤ 64) {l N : Nat} {ok : Nat → Prop} {J Jx : List S59 → World → Prop} (hD : ∀ pre W n, J pre W → J pre (W.drewN n)) (hY : YieldOk l N ok J Jx) (f u : ByteArray) :
    ∀ (d : Nat) {t : T d} {m : Nat} {lo hi : Option ByteArray} (hW : WF order d m lo hi t) (v : Value) (pre : List S59) (W : World) (hM : (NK d).M W 0 ok t [v]) (hJ : J pre W) (hN : pre.length + (scanL f u (toList d t)).length ≤ N),
      Calls Try.prog 47 #[v, .string f, .string u, .func (.yield l) #[] #[]] W (ScanPost ok J Jx pre (scanL f u (toList d t)) W)
  | 0, t, m, lo, hi, hW, v, pre, W, hM, hJ, hN => by
    obtain ⟨h1, _, h2, _⟩ := WF_zero.1 hW
    exact scan_leaf hD hY f u t v pre W h1 (by have : t.length + 1 ≤ order := h2; omega) hM hJ hN
  | d + 1, (ks, cs), m, lo, hi, hW, v, pre, W, hM, hJ, hN => by
    have ih := @scan_calls order h3 h4 l N ok J Jx hD hY f u d
    have hSh := Shape_of_WF h3 h4 hW
    obtain ⟨s1, s2, s3, _⟩ := Shape_inner hSh
    have hkids := (WF_succ.1 hW).1
    obtain ⟨b, A, c, A', c', rfl, x0, x1, x2, hc, hc', hA, hA'⟩ := inner_open ((NK (d + 1)).K_of_M hM)
    have HKID := Aside0.mk (kid_calls b c A ks f W hA hc x0 s1 s3)
    have hkl := kidIx_le ks f
    have HLOW := Aside0.mk (inner_low h3 f u hW)
    have HHI := Aside0.mk (inner_high h3 f (u := u) hW)
    have HM := Aside0.mk hM
    have HD := Aside0.mk hD
    have HJ := Aside0.mk hJ
    have HN := Aside0.mk hN
    have HIH : Aside0 (∀ (i : Nat) (hi : i < cs.length) (v : Value) (pre : List S59) (W : World), (NK d).M W 0 ok cs[i] [v] → J pre W → pre.length + (scanL f u (toList d cs[i])).length ≤ N →
        Calls Try.prog 47 #[v, .string f, .string u, .func (.yield l) #[] #[]] W (ScanPost ok J Jx pre (scanL f u (toList d cs[i])) W)) := ⟨fun i hi v pre W a1 a2 a3 => by
      obtain ⟨lo', hi', hw⟩ := WK_mem hkids _ (List.getElem_mem hi)
      exact ih hw v pre W a1 a2 a3⟩
    clear hM hA hA' hD hJ hN hY ih hSh s1 hkids hW
    generalize kidIx ks f = r at *
    have k3 := ta_inner
    have hge := PTreeRanks.run_geq
    refine (callsIn_wide (n := 5)).1 ?_
    refine callsIn_of_wp Try.func47 rfl trivial ?_ rfl
    simp only [Try.ntmps47, List.size_toArray, List.length_cons, List.length_nil, Nat.reduceAdd, Nat.reduceSub, Array.replicate_succ, Array.replicate_zero, List.push_toArray, List.append_toArray, List.nil_append, List.cons_append]
    gi_wp2_with fail
    refine ⟨trivial, (callsIn_wide.2 HKID.out).mono ?_⟩
    rintro e w1 ⟨rfl, ⟨nd, rfl⟩⟩
    have HJ1 := Aside0.mk (HD.out _ _ nd HJ.out)
    have HK1 : Aside0 (KeptIn ok W (W.drewN nd)) := ⟨fun _ _ => rfl⟩
    clear HKID HJ x0 x1 x2
    gi_wp2_with fail
    gi_loopw [10] (fun v wr => ∃ i : Nat, v = .int .i64 (i : Nat) ∧ r ≤ i ∧ i ≤ cs.length ∧ Aside0 (J (pre ++ scanL f u ((cs.take i).flatMap (toList d))) wr ∧ KeptIn ok W wr)) (fun v wr => cs.length - (RowKit.intOf v).toNat)
    case atStart => exact ⟨r, rfl, Nat.le_refl _, by omega, ⟨by rw [HLOW.out, List.append_nil]; exact HJ1.out, HK1.out⟩⟩
    case round =>
      clear HJ1 HK1
      obtain ⟨i, rfl, hri, hit, ⟨hJ, hK⟩⟩ := hrel
      have hM := (NK (d + 1)).M_move hK HM.out
      obtain ⟨b2, A, c, A', c', e2, x0, x1, hc, hc', hA, hA'⟩ := inner_openM hM
      injection e2 with _ e2
      injection e2 with e2
      injection e2 with e2
      injection e2 with e2
      subst e2
      have HJ := Aside0.mk hJ
      have HK := Aside0.mk hK
      by_cases hlt : i < cs.length
      · have b1 : decide (((i : Nat) : Int) < ((cs.length : Nat) : Int)) = true := decide_eq_true (by omega)
        have p0 : ((0 : Int) ≤ ((i : Nat) : Int)) = True := eq_true (by omega)
        have p1 : (((i : Nat) : Int) < ((cs.length : Nat) : Int)) = True := eq_true (by omega)
        obtain ⟨ad', vk, rfl, hcell', hkid⟩ := hA' i hlt
        have HTK : Aside0 (scanL f u ((cs.take (i + 1)).flatMap (toList d)) = scanL f u ((cs.take i).flatMap (toList d)) ++ scanL f u (toList d cs[i])) := ⟨by
          rw [List.take_succ_eq_append_getElem hlt, List.flatMap_append, scanL_append, List.flatMap_singleton]⟩
        have HPF : Aside0 (∃ z, scanL f u (toList (d + 1) ((ks, cs) : List ByteArray × List (T d))) = scanL f u ((cs.take (i + 1)).flatMap (toList d)) ++ z) := ⟨⟨scanL f u ((cs.drop (i + 1)).flatMap (toList d)), by
          rw [← scanL_append, ← List.flatMap_append, List.take_append_drop, toList_inner]⟩⟩
        have HCALL := Aside0.mk (HIH.out i hlt vk (pre ++ scanL f u ((cs.take i).flatMap (toList d))) wr hkid hJ (by
          obtain ⟨z, hz⟩ := HPF.out
          have h1 := HN.out
          rw [hz, HTK.out, List.length_append, List.length_append] at h1
          rw [List.length_append]
          omega))
        obtain ⟨ty, a, rfl⟩ := NK_form ((NK d).K_of_M hkid)
        have hend : ∀ (e : Ending) (W3 : World), ScanPost ok J Jx (pre ++ scanL f u ((cs.take i).flatMap (toList d))) (scanL f u (toList d cs[i])) wr e W3 →
            (e = .returned (.bool true) ∧ Aside0 (J (pre ++ scanL f u ((cs.take (i + 1)).flatMap (toList d))) W3 ∧ KeptIn ok W W3)) ∨ (e = .returned (.bool false) ∧ Aside0 (∃ q, q <+: scanL f u (toList (d + 1) ((ks, cs) : List ByteArray × List (T d))) ∧ Jx (pre ++ q) W3)) := by
          rintro e W3 (⟨rfl, h1, h2⟩ | ⟨rfl, q, h1, h2⟩)
          · exact .inl ⟨rfl, ⟨by rw [HTK.out, ← List.append_assoc]; exact h1, HK.out.trans h2⟩⟩
          · refine .inr ⟨rfl, ⟨scanL f u ((cs.take i).flatMap (toList d)) ++ q, ?_, by rw [← List.append_assoc]; exact h2⟩⟩
            obtain ⟨z, hz⟩ := HPF.out
            obtain ⟨q2, h1⟩ := h1
            rw [hz, HTK.out, ← h1]
            exact ⟨q2 ++ z, by simp only [List.append_assoc]⟩
        have HEND := Aside0.mk hend
        clear hend hkid hA' hM hJ hK HTK HPF HIH HLOW HN
        by_cases hi0 : i = 0
        · have e0 : decide ((0 : Int) < ((i : Nat) : Int)) = false := decide_eq_false (by omega)
          have e0n : decide (0 < i) = false := decide_eq_false (by omega)
          clear hA HHI hi0
          gi_wp2_with fail
          refine ⟨trivial, (callsIn_wide.2 HCALL.out).mono ?_⟩
          intro e W3 h
          obtain ⟨rfl, HJ3⟩ | ⟨rfl, HJX⟩ := HEND.out e W3 h
          · clear h HCALL
            gi_wp2_with fail
            go_roundw
            case measure => show cs.length - (i + 1) < cs.length - i; omega
            case rel => exact ⟨i + 1, by first | rfl | (simp; done) | (congr 1), by omega, by omega, HJ3⟩
          · clear h HCALL
            gi_wp2_with fail
            go_ret
            obtain ⟨q, h1, h2⟩ := HJX.out
            exact .inr ⟨rfl, q, h1, h2⟩
        · obtain ⟨j, hij⟩ : ∃ j, i = j + 1 := ⟨i - 1, by omega⟩
          have hjk : j < ks.length := by omega
          have e0 : decide ((0 : Int) < ((i : Nat) : Int)) = true := decide_eq_true (by omega)
          have e0n : decide (0 < i) = true := decide_eq_true (by omega)
          have t1 : ((1 : Int) ≤ ((i : Nat) : Int)) = True := eq_true (by omega)
          have t2 : ((0 : Int) ≤ ((i : Nat) : Int) - 1) = True := eq_true (by omega)
          have t3 : (((i : Nat) : Int) - 1 < ((ks.length : Nat) : Int)) = True := eq_true (by omega)
          have t4 : 1 ≤ i := by omega
          have t6 : i - 1 = j := by omega
          obtain ⟨ad, rfl, hcell⟩ := C_scalar hA j hjk
          have HHIj := Aside0.mk (HHI.out j hjk)
          have hcell2 : wr.cell? (ad.add (i - 1)) = some (.string ks[j]) := by rw [t6]; exact hcell
          have HIJ := Aside0.mk hij
          generalize ks[j] = kj at *
          clear hA t6 hij hi0 HHI hcell hjk
          cases hu : blt kj u with
          | false =>
            have hu' : Op.bytesLess kj.toList u.toList = false := hu
            gi_wp2_with fail
            go_ret
            refine .inl ⟨rfl, ?_, HK.out⟩
            have h1 := HHIj.out hu
            rw [← HIJ.out] at h1
            rw [toList_inner, h1]
            exact HJ.out
          | true =>
            have hu' : Op.bytesLess kj.toList u.toList = true := hu
            gi_wp2_with fail
            refine ⟨trivial, (callsIn_wide.2 HCALL.out).mono ?_⟩
            intro e W3 h
            obtain ⟨rfl, HJ3⟩ | ⟨rfl, HJX⟩ := HEND.out e W3 h
            · clear h HCALL
              gi_wp2_with fail
              go_roundw
              case measure => show cs.length - (i + 1) < cs.length - i; omega
              case rel => exact ⟨i + 1, by first | rfl | (simp; done) | (congr 1), by omega, by omega, HJ3⟩
            · clear h HCALL
              gi_wp2_with fail
              go_ret
              obtain ⟨q, h1, h2⟩ := HJX.out
              exact .inr ⟨rfl, q, h1, h2⟩
      · have b1 : decide (((i : Nat) : Int) < ((cs.length : Nat) : Int)) = false := decide_eq_false (by omega)
        obtain rfl : i = cs.length := by omega
        rw [List.take_length, ← toList_inner d ks cs] at HJ
        clear hJ hK hA hA' hM
        gi_wp2_with fail
        go_ret
        exact .inl ⟨rfl, HJ.out, HK.out⟩
end Go.Proofs.Ytjabcdfbncglnaa
