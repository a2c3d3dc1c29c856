/- WHAT IS PROVED: the reference's vulnerable and Dangers. | WHAT IS PROVED: the reference's Pivots. | WHAT IS PROVED: what GraphTraces asks of dangers, plain. -/
import Derived.Test.YtknpkfjaffhejaaGreatPt
import Derived.Test.YtknpkfjaffhejaaGreatNq
import Derived.Test.YtknpkfjaffhejaaGreatTk
import Derived.Test.YtknpkfjaffhejaaGreatIn
namespace Go.Proofs.YtknpkfjaffhejaaGreat
open Go.RowKit Go.Sort Go.Lib Go.Proofs.YtknpkfjaffhejaaGreatW.PrintWords Go.Proofs.YtknpkfjaffhejaaGreatW.PrintLast Go.Proofs.YtknpkfjaffhejaaGreatW.PrintMore
set_option linter.unusedVariables false
set_option linter.unusedSimpArgs false

/-- The reference's vulnerable edges. -/
def refV (l : List Edge) : List Edge := insAll lessE (l.filter fun e => e.v)
theorem refV_eq (l : List Edge) : refV l = vulE l := (ordE_ins _).symm
theorem refV_len (l : List Edge) : (refV l).length ≤ l.length := Nat.le_trans (insAll_len _) (List.length_filter_le _ _)
theorem refV_step (l : List Edge) (i : Nat) (hi : i < l.length) : refV (l.take (i + 1)) = if l[i]!.v = true then ins lessE (refV (l.take i)) l[i]! else refV (l.take i) := by
  rw [getElem!_pos l i hi, List.take_succ_eq_append_getElem hi]
  unfold refV
  rw [List.filter_append]
  by_cases h : l[i].v = true
  · rw [if_pos h, show [l[i]].filter (fun e => e.v) = [l[i]] by simp [h], insAll_snoc]
  · rw [if_neg h, show [l[i]].filter (fun e => e.v) = [] by simp [h], List.append_nil]

set_option maxRecDepth 100000 in
set_option maxHeartbeats 8000000 in
theorem refV_calls (W : World) (v : Value) (l : List Edge) {m0 : Nat} (h : EdR m0 W v l) (hn : l.length ≤ 1048576) :
    Calls Tryz.prog 24 #[v] W fun e W' => Below W.heap.size W W' ∧ ∃ v', e = .returned v' ∧ W'.ownsRow W.heap.size 39 6 v' (refV l).length (flatE (refV l)) := by
  have h' := h
  obtain ⟨A, c, rfl, _⟩ := h'
  have hu31 := Tryz.underlying39
  have HE := Aside0.mk h
  clear h
  go_enter Tryz.func24, Tryz.ntmps24
  go_wp2_with fail
  go_loopw [3, 4] (fun v3 v wr => ∃ i : Nat, v = .int .i64 (i : Nat) ∧ i ≤ l.length ∧ ∃ A3 c3, v3 = .slice A3 (refV (l.take i)).length c3 ∧ Aside0 (Below W.heap.size W wr ∧ wr.ownsRow W.heap.size 39 6 (.slice A3 (refV (l.take i)).length c3) (refV (l.take i)).length (flatE (refV (l.take i))))) (fun _ v wr => l.length - (RowKit.intOf v).toNat)
  case atStart => exact ⟨0, rfl, Nat.zero_le _, none, 0, rfl, ⟨Below.refl _ _, World.ownsRow_nil _ _ _ _⟩⟩
  case round =>
    obtain ⟨i, rfl, hi, A3, c3, rfl, HI⟩ := hrel
    by_cases hlt : i < l.length
    · have d1 : decide (((i : Nat) : Int) < ((l.length : Nat) : Int)) = true := decide_eq_true (by omega)
      have p0 : ((0 : Int) ≤ ((i : Nat) : Int)) = True := eq_true (by omega)
      have p1 : (((i : Nat) : Int) < ((l.length : Nat) : Int)) = True := eq_true (by omega)
      obtain ⟨_, b, off, rfl, y0, y1, y2, y3, y4, y5⟩ := (HE.out.below HI.out.1).cells i hlt
      have HST := Aside0.mk (refV_step l i hlt)
      have hlr : (refV (l.take i)).length ≤ 1048576 := by
        have := refV_len (l.take i)
        rw [List.length_take] at this
        omega
      have hpc := put_calls wr _ (refV (l.take i)) l[i]! HI.out.2 HI.out.1.size hlr
      obtain ⟨⟨p, n, q, m, k, vv⟩, hxe⟩ : ∃ y, l[i]! = y := ⟨_, rfl⟩
      rw [hxe] at y0 y1 y2 y3 y4 y5 HST hpc
      have HPC : Aside0 (Calls Tryz.prog 39 #[.slice A3 (refV (l.take i)).length c3, .agg #[.string p, .int .i64 n, .string q, .int .i64 m, .int .i64 k, .bool vv]] wr fun e W' => Below wr.heap.size wr W' ∧ ∃ v', e = .returned v' ∧ W'.ownsRow W.heap.size 39 6 v' (ins lessE (refV (l.take i)) ⟨p, n, q, m, k, vv⟩).length (flatE (ins lessE (refV (l.take i)) ⟨p, n, q, m, k, vv⟩))) := ⟨hpc⟩
      clear hxe hpc hlr
      cases vv
      · have HS2 : Aside0 (refV (l.take (i + 1)) = refV (l.take i)) := ⟨HST.out⟩
        clear HST HPC
        go_wp2_with fail
        go_roundw
        case measure => show l.length - (i + 1) < l.length - i; omega
        case rel => exact ⟨i + 1, by first | rfl | (simp; done), by omega, A3, c3, by rw [HS2.out], by rw [HS2.out]; exact HI⟩
      · have HS2 : Aside0 (refV (l.take (i + 1)) = ins lessE (refV (l.take i)) ⟨p, n, q, m, k, true⟩) := ⟨HST.out⟩
        clear HST
        go_wp2_with (go_at_call 39; refine HPC.out.mono ?_; rintro e W2 ⟨hb2, v2, rfl, how2⟩; obtain ⟨A4, c4, rfl⟩ := owns_form how2; have HB2 := Aside0.mk (And.intro hb2 how2); clear hb2 how2)
        go_roundw
        case measure => show l.length - (i + 1) < l.length - i; omega
        case rel => exact ⟨i + 1, by first | rfl | (simp; done), by omega, A4, c4, by rw [HS2.out], by rw [HS2.out]; exact ⟨below_to HI.out.1 HB2.out.1, HB2.out.2⟩⟩
    · have d1 : decide (((i : Nat) : Int) < ((l.length : Nat) : Int)) = false := decide_eq_false (by omega)
      obtain rfl : i = l.length := by omega
      have HF : Aside0 (Below W.heap.size W wr ∧ wr.ownsRow W.heap.size 39 6 (.slice A3 (refV (l.take l.length)).length c3) (refV l).length (flatE (refV l))) := ⟨by
        have := HI.out
        rw [List.take_length] at this ⊢
        exact this⟩
      go_wp2_with fail
      go_ret
      exact ⟨HF.out.1, _, rfl, HF.out.2⟩

theorem grp_succ (s : ByteArray) (V : List Edge) (k : Nat) (hk : k < V.length) : grp s (V.take (k + 1)) = if s = V[k]!.p then grp s (V.take k) ++ [V[k]!] else grp s (V.take k) := by
  rw [getElem!_pos V k hk, List.take_succ_eq_append_getElem hk]
  unfold grp
  rw [List.filter_append]
  by_cases h : s = V[k].p
  · rw [if_pos h, show [V[k]].filter (fun e => decide (e.p = s)) = [V[k]] by simp [h]]
  · rw [if_neg h, show [V[k]].filter (fun e => decide (e.p = s)) = [] from by simp; exact fun e => h e.symm, List.append_nil]
theorem grp_take_le (s : ByteArray) (V : List Edge) (k : Nat) : (grp s (V.take k)).length ≤ (grp s V).length := by
  have e : grp s V = grp s (V.take k) ++ grp s (V.drop k) := by
    unfold grp
    rw [← List.filter_append, List.take_append_drop]
  rw [e, List.length_append]
  omega
/-- What the inner loop has appended. -/
def dIn (V : List Edge) (i k : Nat) : List (Edge × Edge) := dangF V (V.take i) ++ (grp V[i]!.q (V.take k)).map fun y => (V[i]!, y)
theorem dIn_zero (V : List Edge) (i : Nat) : dIn V i 0 = dangF V (V.take i) := by simp [dIn, grp]
theorem dIn_end (V : List Edge) (i : Nat) (hi : i < V.length) : dIn V i V.length = dangF V (V.take (i + 1)) := by rw [dangF_succ V i hi, dIn, List.take_length]
theorem dIn_step (V : List Edge) (i k : Nat) (hk : k < V.length) : dIn V i (k + 1) = if V[i]!.q = V[k]!.p then dIn V i k ++ [(V[i]!, V[k]!)] else dIn V i k := by
  unfold dIn
  rw [grp_succ _ _ _ hk]
  split
  · rw [List.map_append, ← List.append_assoc]
    rfl
  · rfl
theorem dIn_len (V : List Edge) (i k : Nat) (hi : i < V.length) (hV : V.length ≤ 1048576) : (dIn V i k).length ≤ 1099511627776 := by
  obtain ⟨z, hz⟩ := dangF_pref V i hi
  have h1 := dangers_len V hV
  rw [hz] at h1
  have h2 := grp_take_le V[i]!.q V k
  unfold dIn
  simp only [List.length_append, List.length_map] at h1 ⊢
  omega
theorem dIn_room (V : List Edge) (i k : Nat) (hi : i < V.length) (hk : k < V.length) (he : V[i]!.q = V[k]!.p) (hV : V.length ≤ 1048576) : (dIn V i k).length + 1 ≤ 1099511627776 := by
  have h := dIn_len V i (k + 1) hi hV
  rw [dIn_step V i k hk, if_pos he, List.length_append] at h
  exact h

theorem flatD_app (l m : List (Edge × Edge)) : flatD (l ++ m) = flatD l ++ flatD m := by simp [flatD]
theorem flatD_one1 (x : Edge × Edge) : flatD [x] = encD x := by simp [flatD]

set_option maxRecDepth 100000 in
set_option maxHeartbeats 8000000 in
theorem refD_calls (W : World) (v : Value) (l : List Edge) {m0 : Nat} (h : EdR m0 W v l) (hn : l.length ≤ 1048576) :
    Calls Tryz.prog 16 #[v] W fun e W' => Below W.heap.size W W' ∧ ∃ v', e = .returned v' ∧ W'.ownsRow W.heap.size 42 12 v' (dangersE (refV l)).length (flatD (dangersE (refV l))) := by
  have h' := h
  obtain ⟨A, c, rfl, _⟩ := h'
  have hu31 := Tryz.underlying39
  have hu33 := Tryz.underlying42
  have hu29 := Tryz.underlying37
  have HC := Aside0.mk (refV_calls W _ l h hn)
  have hVL : (refV l).length ≤ 1048576 := Nat.le_trans (refV_len l) hn
  generalize refV l = V at *
  clear h
  go_enter Tryz.func16, Tryz.ntmps16
  go_wp2_with (go_at_call 24; refine HC.out.mono ?_; rintro e W1 ⟨hb1, v1, rfl, how1⟩; obtain ⟨A1, c1, rfl⟩ := owns_form how1; have HB1 := Aside0.mk (And.intro hb1 how1); clear hb1 how1)
  go_loopw [4, 5] (fun v4 v wr => ∃ i : Nat, v = .int .i64 (i : Nat) ∧ i ≤ V.length ∧ ∃ A4 c4, v4 = .slice A4 (dangF V (V.take i)).length c4 ∧ Aside0 (Below W1.heap.size W1 wr ∧ wr.ownsRow W1.heap.size 42 12 (.slice A4 (dangF V (V.take i)).length c4) (dangF V (V.take i)).length (flatD (dangF V (V.take i))))) (fun _ v wr => V.length - (RowKit.intOf v).toNat)
  case atStart => exact ⟨0, rfl, Nat.zero_le _, none, 0, rfl, ⟨Below.refl _ _, World.ownsRow_nil _ _ _ _⟩⟩
  case round =>
    obtain ⟨i, rfl, hi, A4, c4, rfl, HI⟩ := hrel
    by_cases hlt : i < V.length
    · have d1 : decide (((i : Nat) : Int) < ((V.length : Nat) : Int)) = true := decide_eq_true (by omega)
      go_wp2_with fail
      go_loopw [4, 6] (fun v4 v wt => ∃ k : Nat, v = .int .i64 (k : Nat) ∧ k ≤ V.length ∧ ∃ A4 c4, v4 = .slice A4 (dIn V i k).length c4 ∧ Aside0 (Below W1.heap.size W1 wt ∧ wt.ownsRow W1.heap.size 42 12 (.slice A4 (dIn V i k).length c4) (dIn V i k).length (flatD (dIn V i k)))) (fun _ v wt => V.length - (RowKit.intOf v).toNat)
      case atStart => exact ⟨0, rfl, Nat.zero_le _, A4, c4, by rw [dIn_zero], by rw [dIn_zero]; exact HI⟩
      case round =>
        clear HI d1
        obtain ⟨k, rfl, hk, A5, c5, rfl, HK⟩ := hrel
        by_cases hkt : k < V.length
        · have d1 : decide (((k : Nat) : Int) < ((V.length : Nat) : Int)) = true := decide_eq_true (by omega)
          have p0 : ((0 : Int) ≤ ((i : Nat) : Int)) = True := eq_true (by omega)
          have p1 : (((i : Nat) : Int) < ((V.length : Nat) : Int)) = True := eq_true (by omega)
          have p2 : ((0 : Int) ≤ ((k : Nat) : Int)) = True := eq_true (by omega)
          have p3 : (((k : Nat) : Int) < ((V.length : Nat) : Int)) = True := eq_true (by omega)
          have hE := (owns_ed HB1.out.2).below HK.out.1
          obtain ⟨_, b, off, rfl, y0, y1, y2, y3, y4, y5⟩ := hE.cells i hlt
          obtain ⟨_, b', off', e, z0, z1, z2, z3, z4, z5⟩ := hE.cells k hkt
          cases e
          have HSK0 : Aside0 (∀ W', Below W1.heap.size W1 W' → (W'.cell? ⟨b, off + i * 6, none⟩ = some (.string V[i]!.p) ∧ W'.cell? ⟨b, off + i * 6 + 1, none⟩ = some (.int .i64 V[i]!.n) ∧ W'.cell? ⟨b, off + i * 6 + 2, none⟩ = some (.string V[i]!.q) ∧ W'.cell? ⟨b, off + i * 6 + 3, none⟩ = some (.int .i64 V[i]!.m) ∧ W'.cell? ⟨b, off + i * 6 + 4, none⟩ = some (.int .i64 V[i]!.k) ∧ W'.cell? ⟨b, off + i * 6 + 5, none⟩ = some (.bool V[i]!.v)) ∧ (W'.cell? ⟨b, off + k * 6, none⟩ = some (.string V[k]!.p) ∧ W'.cell? ⟨b, off + k * 6 + 1, none⟩ = some (.int .i64 V[k]!.n) ∧ W'.cell? ⟨b, off + k * 6 + 2, none⟩ = some (.string V[k]!.q) ∧ W'.cell? ⟨b, off + k * 6 + 3, none⟩ = some (.int .i64 V[k]!.m) ∧ W'.cell? ⟨b, off + k * 6 + 4, none⟩ = some (.int .i64 V[k]!.k) ∧ W'.cell? ⟨b, off + k * 6 + 5, none⟩ = some (.bool V[k]!.v))) := ⟨fun W' hb => by
            have hE := (owns_ed HB1.out.2).below hb
            obtain ⟨_, b', off', e, yy⟩ := hE.cells i hlt
            cases e
            obtain ⟨_, b', off', e, zz⟩ := hE.cells k hkt
            cases e
            exact ⟨yy, zz⟩⟩
          have HST := Aside0.mk (dIn_step V i k hkt)
          have HRM := Aside0.mk (fun he => dIn_room V i k hlt hkt he hVL)
          obtain ⟨⟨p, n, q, m, kk, vv⟩, hxe⟩ : ∃ y, V[i]! = y := ⟨_, rfl⟩
          obtain ⟨⟨p', n', q', m', kk', vv'⟩, hye⟩ : ∃ y, V[k]! = y := ⟨_, rfl⟩
          rw [hxe] at y0 y1 y2 y3 y4 y5 HST HRM HSK0
          rw [hye] at z0 z1 z2 z3 z4 z5 HST HRM HSK0
          clear hxe hye hE
          have HSK : Aside0 (∀ W', Below W1.heap.size W1 W' → (W'.cell? ⟨b, off + i * 6, none⟩ = some (.string p) ∧ W'.cell? ⟨b, off + i * 6 + 1, none⟩ = some (.int .i64 n) ∧ W'.cell? ⟨b, off + i * 6 + 2, none⟩ = some (.string q) ∧ W'.cell? ⟨b, off + i * 6 + 3, none⟩ = some (.int .i64 m) ∧ W'.cell? ⟨b, off + i * 6 + 4, none⟩ = some (.int .i64 kk) ∧ W'.cell? ⟨b, off + i * 6 + 5, none⟩ = some (.bool vv)) ∧ (W'.cell? ⟨b, off + k * 6, none⟩ = some (.string p') ∧ W'.cell? ⟨b, off + k * 6 + 1, none⟩ = some (.int .i64 n') ∧ W'.cell? ⟨b, off + k * 6 + 2, none⟩ = some (.string q') ∧ W'.cell? ⟨b, off + k * 6 + 3, none⟩ = some (.int .i64 m') ∧ W'.cell? ⟨b, off + k * 6 + 4, none⟩ = some (.int .i64 kk') ∧ W'.cell? ⟨b, off + k * 6 + 5, none⟩ = some (.bool vv'))) := HSK0
          clear HSK0
          by_cases he : q = p'
          · have HS2 := Aside0.mk (HST.out.trans (if_pos he))
            have HRR := Aside0.mk (HRM.out he)
            have e1 : (q.toList == p'.toList) = true := by rw [he]; simp
            clear he HST HRM
            go_wp2_with fail
            go_quiet (fail)
            have HBT : Below W1.heap.size W1 (wr.drewN nq) := below_to HK.out.1 ((Gr.refl wr).drewN nq).below
            have how := owns_below HK.out.2 ((Gr.refl wr).drewN nq).below
            clear HK y0 y1 y2 y3 y4 y5 z0 z1 z2 z3 z4 z5
            generalize wr.drewN nq = WT at *
            have HBD : Below W1.heap.size W1 WT.drew := below_to HBT (Gr.refl WT).drew.below
            have how2 : WT.drew.ownsRow W1.heap.size 42 12 (.slice A5 (dIn V i k).length c5) (dIn V i k).length (flatD (dIn V i k)) := owns_below how (Gr.refl WT).drew.below
            have hS3 := HSK.out _ HBD
            have HBA := below_mk HBD (.cells #[.string p, .int .i64 n, .string q, .int .i64 m, .int .i64 kk, .bool vv, .string p', .int .i64 n', .string q', .int .i64 m', .int .i64 kk', .bool vv'] 42)
            have hSa := HSK.out _ HBA
            have t24 := Tryz.underlying40
            obtain ⟨i0, hi0, hz0, hz1, hz2⟩ := info_parts info33s
            have hown := Aside0.mk (how2.alloc (.cells #[.string p, .int .i64 n, .string q, .int .i64 m, .int .i64 kk, .bool vv, .string p', .int .i64 n', .string q', .int .i64 m', .int .i64 kk', .bool vv'] 42))
            have hq4 : Aside0 ((dIn V i k).length + 1 ≤ maxLen) := ⟨by have := HRR.out; unfold maxLen; omega⟩
            have hq5 : Aside0 (((dIn V i k).length + 1) * 128 ≤ 140737488355328) := ⟨by have := HRR.out; omega⟩
            have hbs : Aside0 (W1.heap.size ≤ (WT.drew.alloc (.cells #[.string p, .int .i64 n, .string q, .int .i64 m, .int .i64 kk, .bool vv, .string p', .int .i64 n', .string q', .int .i64 m', .int .i64 kk', .bool vv'] 42)).heap.size) := ⟨HBA.size⟩
            have hnews : Aside0 (∀ j u, (encD (⟨p, n, q, m, kk, vv⟩, ⟨p', n', q', m', kk', vv'⟩))[j]? = some u → (WT.drew.alloc (.cells #[.string p, .int .i64 n, .string q, .int .i64 m, .int .i64 kk, .bool vv, .string p', .int .i64 n', .string q', .int .i64 m', .int .i64 kk', .bool vv'] 42)).cell? ((⟨WT.drew.heap.size, 0, none⟩ : Addr).add j) = some u) := ⟨fun j u hj => by
              rw [Addr.add_lit, Nat.zero_add, blk_cell (heap_alloc_new WT.drew _)]
              simpa [encD, encE] using hj⟩
            have HUP : Aside0 (∀ v' W5', W5'.ownsRow W1.heap.size 42 12 v' ((dIn V i k).length + 1) (flatD (dIn V i k) ++ encD (⟨p, n, q, m, kk, vv⟩, ⟨p', n', q', m', kk', vv'⟩)) → (WT.drew.alloc (.cells #[.string p, .int .i64 n, .string q, .int .i64 m, .int .i64 kk, .bool vv, .string p', .int .i64 n', .string q', .int .i64 m', .int .i64 kk', .bool vv'] 42)).grownBy W5' (Value.slice A5 (dIn V i k).length c5).ownBlock → ((W5'.cell? ⟨b, off + i * 6, none⟩ = some (.string p) ∧ W5'.cell? ⟨b, off + i * 6 + 1, none⟩ = some (.int .i64 n) ∧ W5'.cell? ⟨b, off + i * 6 + 2, none⟩ = some (.string q) ∧ W5'.cell? ⟨b, off + i * 6 + 3, none⟩ = some (.int .i64 m) ∧ W5'.cell? ⟨b, off + i * 6 + 4, none⟩ = some (.int .i64 kk) ∧ W5'.cell? ⟨b, off + i * 6 + 5, none⟩ = some (.bool vv)) ∧ (W5'.cell? ⟨b, off + k * 6, none⟩ = some (.string p') ∧ W5'.cell? ⟨b, off + k * 6 + 1, none⟩ = some (.int .i64 n') ∧ W5'.cell? ⟨b, off + k * 6 + 2, none⟩ = some (.string q') ∧ W5'.cell? ⟨b, off + k * 6 + 3, none⟩ = some (.int .i64 m') ∧ W5'.cell? ⟨b, off + k * 6 + 4, none⟩ = some (.int .i64 kk') ∧ W5'.cell? ⟨b, off + k * 6 + 5, none⟩ = some (.bool vv'))) ∧ Aside0 (Below W1.heap.size W1 W5' ∧ W5'.ownsRow W1.heap.size 42 12 v' (dIn V i (k + 1)).length (flatD (dIn V i (k + 1))))) := ⟨fun v' W5' h5 hg5 => by
              have hb5 : Below W1.heap.size W1 W5' := HBA.trans (grownBy_below hg5 HBA.size (fun kk e => (hown.out.lt kk e).1))
              refine ⟨HSK.out _ hb5, hb5, ?_⟩
              rw [HS2.out, flatD_app, flatD_one1, List.length_append, List.length_singleton]
              exact h5⟩
            go_wp2_with fail
            go_region_held_law (fun W' : World => (W'.cell? ⟨b, off + i * 6, none⟩ = some (.string p) ∧ W'.cell? ⟨b, off + i * 6 + 1, none⟩ = some (.int .i64 n) ∧ W'.cell? ⟨b, off + i * 6 + 2, none⟩ = some (.string q) ∧ W'.cell? ⟨b, off + i * 6 + 3, none⟩ = some (.int .i64 m) ∧ W'.cell? ⟨b, off + i * 6 + 4, none⟩ = some (.int .i64 kk) ∧ W'.cell? ⟨b, off + i * 6 + 5, none⟩ = some (.bool vv)) ∧ (W'.cell? ⟨b, off + k * 6, none⟩ = some (.string p') ∧ W'.cell? ⟨b, off + k * 6 + 1, none⟩ = some (.int .i64 n') ∧ W'.cell? ⟨b, off + k * 6 + 2, none⟩ = some (.string q') ∧ W'.cell? ⟨b, off + k * 6 + 3, none⟩ = some (.int .i64 m') ∧ W'.cell? ⟨b, off + k * 6 + 4, none⟩ = some (.int .i64 kk') ∧ W'.cell? ⟨b, off + k * 6 + 5, none⟩ = some (.bool vv'))) (first | assumption | exact hS3 | exact hSa) ((refine step_append_at rfl _ _ 40 rfl W1.heap.size 42 i0 (.agg (encD zrD).toArray) 12 128 t24 hi0 hz0 hz1 hz2 rfl (by omega) _ _ _ rfl hown.out ⟨WT.drew.heap.size, 0, none⟩ 1 1 (encD (⟨p, n, q, m, kk, vv⟩, ⟨p', n', q', m', kk', vv'⟩)) rfl rfl hnews.out (encD_one _) hq4.out hq5.out hbs.out ?_; intro v5 W5 hown5 hgrow5 hnil5 hblk5; obtain ⟨hS5, HF⟩ := HUP.out v5 W5 hown5 hgrow5; obtain ⟨A6, c6, rfl⟩ := owns_form HF.out.2; clear hown5 hgrow5 hnil5 hblk5))
            all_goals
              clear hS3 hSa
              go_wp2
              go_roundw
              case measure => show V.length - (k + 1) < V.length - k; omega
              case rel => exact ⟨k + 1, by first | rfl | (simp; done), by omega, _, _, rfl, by assumption⟩
          · have HS2 := Aside0.mk (HST.out.trans (if_neg he))
            have e1 : (q.toList == p'.toList) = false := by
              have : q.toList ≠ p'.toList := fun h => he (toList_inj h)
              simpa using this
            clear he HST HRM
            go_wp2_with fail
            go_quiet (fail)
            have HG5 : Aside0 (Below W1.heap.size W1 (wr.drewN nq) ∧ (wr.drewN nq).ownsRow W1.heap.size 42 12 (.slice A5 (dIn V i k).length c5) (dIn V i k).length (flatD (dIn V i k))) := ⟨below_to HK.out.1 ((Gr.refl wr).drewN nq).below, owns_below HK.out.2 ((Gr.refl wr).drewN nq).below⟩
            go_wp2_with fail
            go_roundw
            case measure => show V.length - (k + 1) < V.length - k; omega
            case rel => exact ⟨k + 1, by first | rfl | (simp; done), by omega, A5, c5, by rw [HS2.out], by rw [HS2.out]; exact HG5⟩
        · have d1 : decide (((k : Nat) : Int) < ((V.length : Nat) : Int)) = false := decide_eq_false (by omega)
          obtain rfl : k = V.length := by omega
          have HE2 := Aside0.mk (dIn_end V i hlt)
          go_wp2_with fail
          go_roundw
          case measure => show V.length - (i + 1) < V.length - i; omega
          case rel => exact ⟨i + 1, by first | rfl | (simp; done), by omega, A5, c5, by rw [HE2.out], by rw [← HE2.out]; exact HK⟩
    · have d1 : decide (((i : Nat) : Int) < ((V.length : Nat) : Int)) = false := decide_eq_false (by omega)
      obtain rfl : i = V.length := by omega
      have HF : Aside0 (Below W.heap.size W wr ∧ wr.ownsRow W.heap.size 42 12 (.slice A4 (dangF V (V.take V.length)).length c4) (dangersE V).length (flatD (dangersE V))) := ⟨by
        have := HI.out
        rw [List.take_length] at this ⊢
        exact ⟨below_to HB1.out.1 this.1, owns_mono this.2 HB1.out.1.size⟩⟩
      go_wp2_with fail
      go_ret
      exact ⟨HF.out.1, _, rfl, HF.out.2⟩
end Go.Proofs.YtknpkfjaffhejaaGreat

namespace Go.Proofs.YtknpkfjaffhejaaGreat
open Go.RowKit Go.Sort Go.Lib Go.Proofs.YtknpkfjaffhejaaGreatW.PrintWords Go.Proofs.YtknpkfjaffhejaaGreatW.PrintLast Go.Proofs.YtknpkfjaffhejaaGreatW.PrintMore
set_option linter.unusedVariables false
set_option linter.unusedSimpArgs false

/-- The names in which dangers meet. -/
def refP (D : List (Edge × Edge)) : List ByteArray := insAll blt (D.map fun x => x.1.q)
theorem refP_step (D : List (Edge × Edge)) (i : Nat) (hi : i < D.length) : refP (D.take (i + 1)) = ins blt (refP (D.take i)) D[i]!.1.q := by
  rw [getElem!_pos D i hi, List.take_succ_eq_append_getElem hi]
  unfold refP
  rw [List.map_append, List.map_cons, List.map_nil, insAll_snoc]
theorem refP_len (D : List (Edge × Edge)) : (refP D).length ≤ D.length := by
  have := insAll_len (lt := blt) (D.map fun x => x.1.q)
  rwa [List.length_map] at this

set_option maxRecDepth 100000 in
set_option maxHeartbeats 8000000 in
theorem refP_calls (W : World) (v : Value) (l : List Edge) {m0 : Nat} (h : EdR m0 W v l) (hn : l.length ≤ 1048576) :
    Calls Tryz.prog 17 #[v] W fun e W' => Below W.heap.size W W' ∧ ∃ v', e = .returned v' ∧ W'.ownsRow W.heap.size 9 1 v' (refP (dangersE (refV l))).length ((refP (dangersE (refV l))).map Value.string) := by
  have h' := h
  obtain ⟨A, c, rfl, _⟩ := h'
  have hu31 := Tryz.underlying39
  have hu33 := Tryz.underlying42
  have hu29 := Tryz.underlying37
  have HC := Aside0.mk (refD_calls W _ l h hn)
  have hDL : (dangersE (refV l)).length ≤ 1099511627776 := dangers_len _ (Nat.le_trans (refV_len l) hn)
  generalize dangersE (refV l) = D at *
  clear h
  go_enter Tryz.func17, Tryz.ntmps17
  go_wp2_with (go_at_call 16; refine HC.out.mono ?_; rintro e W1 ⟨hb1, v1, rfl, how1⟩; obtain ⟨A1, c1, rfl⟩ := owns_form how1; have HB1 := Aside0.mk (And.intro hb1 how1); clear hb1 how1)
  go_loopw [3, 5] (fun v3 v wr => ∃ i : Nat, v = .int .i64 (i : Nat) ∧ i ≤ D.length ∧ ∃ A3 c3, v3 = .slice A3 (refP (D.take i)).length c3 ∧ Aside0 (Below W1.heap.size W1 wr ∧ wr.ownsRow W1.heap.size 9 1 (.slice A3 (refP (D.take i)).length c3) (refP (D.take i)).length ((refP (D.take i)).map Value.string))) (fun _ v wr => D.length - (RowKit.intOf v).toNat)
  case atStart => exact ⟨0, rfl, Nat.zero_le _, none, 0, rfl, ⟨Below.refl _ _, World.ownsRow_nil _ _ _ _⟩⟩
  case round =>
    obtain ⟨i, rfl, hi, A3, c3, rfl, HI⟩ := hrel
    by_cases hlt : i < D.length
    · have d1 : decide (((i : Nat) : Int) < ((D.length : Nat) : Int)) = true := decide_eq_true (by omega)
      have p0 : ((0 : Int) ≤ ((i : Nat) : Int)) = True := eq_true (by omega)
      have p1 : (((i : Nat) : Int) < ((D.length : Nat) : Int)) = True := eq_true (by omega)
      obtain ⟨_, b, off, rfl, hy⟩ := ((DaR.of_owns HB1.out.2).below HI.out.1).cells i hlt
      have HST := Aside0.mk (refP_step D i hlt)
      have hlr : (refP (D.take i)).length ≤ 1099511627776 := by
        have := refP_len (D.take i)
        rw [List.length_take] at this
        omega
      have HPC := Aside0.mk (name_calls wr _ (refP (D.take i)) D[i]!.1.q HI.out.2 HI.out.1.size hlr)
      have y2 : wr.cell? ⟨b, off + i * 12 + 2, none⟩ = some (.string D[i]!.1.q) := hy 2 (by omega)
      generalize D[i]!.1.q = q at *
      clear hy hlr
      go_wp2_with (go_at_call 28; refine HPC.out.mono ?_; rintro e W2 ⟨hb2, v2, rfl, how2⟩; obtain ⟨A4, c4, rfl⟩ := owns_form how2; have HB2 := Aside0.mk (And.intro hb2 how2); clear hb2 how2)
      go_roundw
      case measure => show D.length - (i + 1) < D.length - i; omega
      case rel => exact ⟨i + 1, by first | rfl | (simp; done), by omega, A4, c4, by rw [HST.out], by rw [HST.out]; exact ⟨below_to HI.out.1 HB2.out.1, HB2.out.2⟩⟩
    · have d1 : decide (((i : Nat) : Int) < ((D.length : Nat) : Int)) = false := decide_eq_false (by omega)
      obtain rfl : i = D.length := by omega
      have HF : Aside0 (Below W.heap.size W wr ∧ wr.ownsRow W.heap.size 9 1 (.slice A3 (refP (D.take D.length)).length c3) (refP D).length ((refP D).map Value.string)) := ⟨by
        have := HI.out
        rw [List.take_length] at this ⊢
        exact ⟨below_to HB1.out.1 this.1, owns_mono this.2 HB1.out.1.size⟩⟩
      go_wp2_with fail
      go_ret
      exact ⟨HF.out.1, _, rfl, HF.out.2⟩
end Go.Proofs.YtknpkfjaffhejaaGreat

namespace Go.Proofs.YtknpkfjaffhejaaGreat
open Go.RowKit Go.Sort Go.Lib
set_option linter.unusedVariables false
set_option linter.unusedSimpArgs false

theorem lessSto : STO lessE := cmpE3.sto
theorem mem_vul_iff {l : List Edge} {x : Edge} : x ∈ vulE l ↔ x ∈ l ∧ x.v = true := by
  rw [← refV_eq, refV, mem_insAll lessSto, List.mem_filter]
theorem vul_nodup (l : List Edge) : (vulE l).Nodup := by
  rw [← refV_eq, refV]
  refine (insAll_sorted lessSto _).imp ?_
  intro a b h e
  subst e
  rw [lessSto.irrefl] at h
  cases h
theorem mem_dang_iff {V : List Edge} {x : Edge × Edge} : x ∈ dangersE V ↔ x.1 ∈ V ∧ x.2 ∈ V ∧ x.1.q = x.2.p := by
  unfold dangersE dangF grp
  rw [List.mem_flatMap]
  constructor
  · rintro ⟨y, hy, h⟩
    obtain ⟨z, hz, rfl⟩ := List.mem_map.1 h
    rw [List.mem_filter] at hz
    exact ⟨hy, hz.1, (of_decide_eq_true hz.2).symm⟩
  · rintro ⟨h1, h2, h3⟩
    exact ⟨x.1, h1, List.mem_map.2 ⟨x.2, List.mem_filter.2 ⟨h2, decide_eq_true h3.symm⟩, rfl⟩⟩
theorem dang_nodup {V : List Edge} (h : V.Nodup) : (dangersE V).Nodup := by
  have : ∀ U : List Edge, U.Nodup → (dangF V U).Nodup := fun U => by
    induction U with
    | nil => intro _; exact List.nodup_nil
    | cons a r ih =>
      intro hU
      rw [List.nodup_cons] at hU
      rw [dangF, List.flatMap_cons]
      refine List.nodup_append.2 ⟨List.pairwise_map.2 ((h.filter _).imp fun hne e => hne (by simpa using e)), ih hU.2, fun x hx y hy => ?_⟩
      obtain ⟨z, _, rfl⟩ := List.mem_map.1 hx
      intro e
      subst e
      obtain ⟨b, hb, hy⟩ := List.mem_flatMap.1 hy
      obtain ⟨w, _, hw⟩ := List.mem_map.1 hy
      have : b = a := by simpa using (Prod.ext_iff.1 hw).1
      subst this
      exact hU.1 hb
  exact this V h
theorem dang_le (V : List Edge) : (dangersE V).length ≤ V.length * V.length := by
  have h1 : ∀ U : List Edge, (dangF V U).length ≤ U.length * V.length := fun U => by
    induction U with
    | nil => simp [dangF]
    | cons x r ih =>
      have : (grp x.q V).length ≤ V.length := List.length_filter_le _ _
      simp only [dangF, List.flatMap_cons, List.length_append, List.length_map, List.length_cons, Nat.add_mul] at ih ⊢
      omega
  exact h1 V

/-- How often a danger is told, up to a place. -/
def told (D : List (Edge × Edge)) (a b : Edge) (j : Nat) : Nat := ((D.take j).filter fun x => decide (x.1 = a ∧ x.2 = b)).length
theorem told_zero (D : List (Edge × Edge)) (a b : Edge) : told D a b 0 = 0 := by simp [told]
theorem told_succ (D : List (Edge × Edge)) (a b : Edge) (j : Nat) (hj : j < D.length) : told D a b (j + 1) = if D[j]!.1 = a ∧ D[j]!.2 = b then told D a b j + 1 else told D a b j := by
  rw [getElem!_pos D j hj]
  unfold told
  rw [List.take_succ_eq_append_getElem hj, List.filter_append, List.length_append]
  by_cases h : D[j].1 = a ∧ D[j].2 = b
  · rw [if_pos h]; simp [h]
  · rw [if_neg h]
    have : [D[j]].filter (fun x => decide (x.1 = a ∧ x.2 = b)) = [] := by simp; exact fun e1 e2 => h ⟨e1, e2⟩
    rw [this]
    rfl
theorem told_le (D : List (Edge × Edge)) (a b : Edge) (j : Nat) : told D a b j ≤ D.length := by
  unfold told
  refine Nat.le_trans (List.length_filter_le _ _) ?_
  rw [List.length_take]
  omega
theorem told_end {D : List (Edge × Edge)} (hD : D.Nodup) {a b : Edge} (h : (a, b) ∈ D) : told D a b D.length = 1 := by
  have e : ∀ l : List (Edge × Edge), l.Nodup → (a, b) ∈ l → (l.filter fun x => decide (x.1 = a ∧ x.2 = b)).length = 1 := fun l => by
    induction l with
    | nil => intro _ h; cases h
    | cons x r ih =>
      intro hn hm
      rw [List.nodup_cons] at hn
      by_cases hx : x.1 = a ∧ x.2 = b
      · have hxe : x = (a, b) := Prod.ext hx.1 hx.2
        have hr : r.filter (fun x => decide (x.1 = a ∧ x.2 = b)) = [] := by
          rw [List.filter_eq_nil_iff]
          intro y hy hc
          have := of_decide_eq_true hc
          have hye : y = (a, b) := Prod.ext this.1 this.2
          exact hn.1 (by rw [hxe, ← hye]; exact hy)
        rw [List.filter_cons_of_pos (by exact decide_eq_true hx), hr]
        rfl
      · rw [List.filter_cons_of_neg (by simpa using hx)]
        refine ih hn.2 ?_
        rcases List.mem_cons.1 hm with h | h
        · exact absurd ⟨by rw [← h], by rw [← h]⟩ hx
        · exact h
  unfold told
  rw [List.take_length]
  exact e D hD h
theorem trk_empty {D : List (Edge × Edge)} {T : List SI} (h : ∀ s, s ∈ T ↔ s ∈ trk D) : (((T.length : Nat) : Int) == 0) = (((D.length : Nat) : Int) == 0) := by
  cases D with
  | nil =>
    have : T = [] := by
      cases T with
      | nil => rfl
      | cons t r => have := (h t).1 (by simp); simp [trk] at this
    rw [this]
    rfl
  | cons x r =>
    have hm : (x.1.p, x.1.n) ∈ T := (h _).2 (mem_trk.2 ⟨x, by simp, .inl rfl⟩)
    cases T with
    | nil => cases hm
    | cons t s =>
      rw [Bool.eq_iff_iff]
      simp
      omega
end Go.Proofs.YtknpkfjaffhejaaGreat
