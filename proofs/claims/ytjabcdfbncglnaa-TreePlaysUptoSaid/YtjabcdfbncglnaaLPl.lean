/- WHAT IS PROVED: TreePlays answers true at every order and script. -/
import Derived.Test.YtjabcdfbncglnaaLPl0
import Derived.Test.YtjabcdfbncglnaaLAsc
import Derived.StillTailTactics
import Derived.Deep.RegionWith
import Derived.Deep.RegionHeld3
namespace Go.Proofs.Ytjabcdfbncglnaa
open Go.RowKit Go.Proofs.YtjabcdfbncglnaaW.PrintWords Go.Proofs.YtjabcdfbncglnaaW.PrintLast Go.Proofs.YtjabcdfbncglnaaW.PrintMore
open PTreeRanks (S59 k59 z59)
set_option linter.unusedVariables false
set_option linter.unusedSimpArgs false

theorem asks_any {order bt s o cl : Nat} {l : List S59} {ok : Nat → Prop} {Al : Option Addr} {w : World} (hT : TG order l ok bt w) (hbt : ¬ ok bt) (hl : l.length ≤ 1073741824) (x0 : w.cell? ⟨s, o, none⟩ = some (.pointer (some ⟨bt, 0, none⟩)))
    (x1 : w.cell? ⟨s, o + 1, none⟩ = some (.slice Al l.length cl)) (hCl : Kd.C k59 w Al l.length l) (hcl : l.length ≤ cl) (other beyond : Bool) (k k2 : ByteArray) (kd v i : Int) :
    Calls Try.prog 19 #[.pointer (some ⟨s, o, none⟩), .agg #[.int .i64 kd, .bool other, .string k, .string k2, .int .i64 v, .int .i64 i, .bool beyond], .int .i64 (order : Nat)] w fun e w' => e = .returned (.bool true) ∧ Below w.heap.size w w' := by
  have hTL := hT.tl hbt
  by_cases h2 : kd = 2
  · subst h2; exact asks_get hTL hl x0 x1 hCl hcl _ _ _ _ _ _
  by_cases h3 : kd = 3
  · subst h3; exact asks_next hTL hl x0 x1 hCl hcl _ _ _ _ _ _
  by_cases h4 : kd = 4
  · subst h4; exact asks_scan hT hl x0 x1 hCl hcl _ _ _ _ _ _
  by_cases h5 : kd = 5
  · subst h5; exact asks_rank hTL hl x0 x1 hCl hcl _ _ _ _ _ _
  by_cases h6 : kd = 6
  · subst h6; exact asks_at hTL hl x0 x1 hCl hcl _ _ _ _ _ _
  by_cases h8 : kd = 8
  · subst h8; exact asks_nodes hT.1 hT.2.1 hTL hl x0 x1 hCl hcl _ _ _ _ _ _
  exact asks_len hTL hl x0 x1 hCl hcl _ _ _ _ _ _ _ h2 h3 h4 h5 h6 h8

section
variable {order n b0 b1 s : Nat} {l0 l1 : List S59} {W W' : World}
theorem PlaysAt.ask0 (h : PlaysAt order n b0 b1 s l0 l1 W) (hl : l0.length ≤ 1073741824) (other beyond : Bool) (k k2 : ByteArray) (kd v i : Int) :
    Calls Try.prog 19 #[.pointer (some ⟨s, 0, none⟩), .agg #[.int .i64 kd, .bool other, .string k, .string k2, .int .i64 v, .int .i64 i, .bool beyond], .int .i64 (order : Nat)] W fun e w' => e = .returned (.bool true) ∧ PlaysAt order n b0 b1 s l0 l1 w' ∧ Below n W w' := by
  have h' := h
  obtain ⟨⟨f0, f1, f2, f3, f4, f5⟩, lv0, lv1, hh, hT0, hT1, hR0, hR1⟩ := h
  obtain ⟨A, c, rfl, hc, hC⟩ := Kd.R_reads hR0
  refine (asks_any hT0 (fun e => e.2.1 rfl) hl ((blk_cell hh 0).trans rfl) ((blk_cell hh 1).trans rfl) hC hc other beyond k k2 kd v i).mono ?_
  rintro e w' ⟨he, hb⟩
  exact ⟨he, h'.below hb, hb.mono (by have := blk_lt hh; omega)⟩
theorem PlaysAt.ask1 (h : PlaysAt order n b0 b1 s l0 l1 W) (hl : l1.length ≤ 1073741824) (other beyond : Bool) (k k2 : ByteArray) (kd v i : Int) :
    Calls Try.prog 19 #[.pointer (some ⟨s, 2, none⟩), .agg #[.int .i64 kd, .bool other, .string k, .string k2, .int .i64 v, .int .i64 i, .bool beyond], .int .i64 (order : Nat)] W fun e w' => e = .returned (.bool true) ∧ PlaysAt order n b0 b1 s l0 l1 w' ∧ Below n W w' := by
  have h' := h
  obtain ⟨⟨f0, f1, f2, f3, f4, f5⟩, lv0, lv1, hh, hT0, hT1, hR0, hR1⟩ := h
  obtain ⟨A, c, rfl, hc, hC⟩ := Kd.R_reads hR1
  refine (asks_any hT1 (fun e => e.2.2.1 rfl) hl ((blk_cell hh 2).trans rfl) ((blk_cell hh 3).trans rfl) hC hc other beyond k k2 kd v i).mono ?_
  rintro e w' ⟨he, hb⟩
  exact ⟨he, h'.below hb, hb.mono (by have := blk_lt hh; omega)⟩
end

def PlaysInv (order n s : Nat) (w : World) (i : Nat) (W : World) : Prop :=
  Below w.heap.size w W ∧ ∃ b0 b1 l0 l1, l0.length ≤ i ∧ l1.length ≤ i ∧ PlaysAt order n b0 b1 s l0 l1 W

set_option maxRecDepth 100000 in
set_option maxHeartbeats 8000000 in
theorem plays_good (order : Nat) (h3 : 3 ≤ order) (h4 : order ≤ 64) (A : Option Addr) (c : Nat) (ops : List S46) (w : World) (hO : OpsAt w A ops.length ops) (hc : ops.length ≤ c) (hn : ops.length ≤ 2097152) (hz : ∀ x ∈ ops, x.k.size ≤ 281474976710656) :
    Calls Try.prog 28 #[.int .i64 (order : Nat), .slice A ops.length c] w fun e w' => e = .returned (.bool true) ∧ Below w.heap.size w w' := by
  have hu27 := Try.underlying27
  have hu46 := Try.underlying46
  have hu49 := Try.underlying49
  have HO := Aside0.mk hO
  have HZ := Aside0.mk hz
  have HBE := Aside0.mk (begun_calls order h3 h4 w)
  clear hO hz
  go_enter Try.func28, Try.ntmps28
  go_wp2_with fail
  refine HBE.out.mono ?_
  rintro e w1 ⟨hB1, b0, b1, rfl, h20, h01, hT0, hT1⟩
  have hn1 := heap_alloc_new w1 (.cells #[.pointer (some ⟨b0, 0, none⟩), .slice none 0 0, .pointer (some ⟨b1, 0, none⟩), .slice none 0 0] 49)
  have hb1 := below_mk (Below.refl w1.heap.size w1) (.cells #[.pointer (some ⟨b0, 0, none⟩), .slice none 0 0, .pointer (some ⟨b1, 0, none⟩), .slice none 0 0] 49)
  have hl0 := hT0.lt
  have hl1 := hT1.lt
  have HF : Aside0 (PlaysAt order (w.heap.size + 2) b0 b1 w1.heap.size [] [] (w1.alloc (.cells #[.pointer (some ⟨b0, 0, none⟩), .slice none 0 0, .pointer (some ⟨b1, 0, none⟩), .slice none 0 0] 49))) :=
    ⟨⟨h20, by omega, by omega, by omega, by omega, by omega⟩, .slice none 0 0, .slice none 0 0, hn1, (hT0.imp (fun k hk hlt => (⟨hk.1, hk.2.1, hk.2.2, by omega⟩ : OkF (w.heap.size + 2) b0 b1 w1.heap.size k))).below hb1,
      (hT1.imp (fun k hk hlt => (⟨hk.1, hk.2.1, hk.2.2, by omega⟩ : OkF (w.heap.size + 2) b0 b1 w1.heap.size k))).below hb1, Kd.R_nil _ _ _ _ _, Kd.R_nil _ _ _ _ _⟩
  have HB2 := Aside0.mk (hB1.trans (hb1.mono hB1.size))
  clear hB1 hT0 hT1 HBE hn1 hb1
  have HLV := Aside0.mk (live_calls (w1.alloc (.cells #[.pointer (some ⟨b0, 0, none⟩), .slice none 0 0, .pointer (some ⟨b1, 0, none⟩), .slice none 0 0] 49)))
  go_wp2_with fail
  refine HLV.out.mono ?_
  rintro e w2 ⟨rfl, hb2⟩
  have HI : Aside0 (PlaysInv order (w.heap.size + 2) w1.heap.size w 0 w2) := ⟨HB2.out.trans (hb2.mono HB2.out.size), b0, b1, [], [], Nat.le_refl _, Nat.le_refl _, HF.out.below hb2⟩
  clear HF HB2 HLV hb2
  obtain ⟨s, hs⟩ : ∃ s, s = w1.heap.size := ⟨_, rfl⟩
  rw [← hs] at HI ⊢
  clear hs hl0 hl1 h20 h01
  go_wp2
  go_loopw [28] (fun v W => ∃ i : Nat, v = .int .i64 i ∧ i ≤ ops.length ∧ Aside0 (PlaysInv order (w.heap.size + 2) s w i W)) (fun v W => ops.length - (RowKit.intOf v).toNat)
  case atStart => exact ⟨0, rfl, Nat.zero_le _, HI⟩
  case round =>
    clear HI
    obtain ⟨i, rfl, hi, ⟨hB, b0, b1, l0, l1, hl0, hl1, hP⟩⟩ := hrel
    by_cases hlt : i < ops.length
    · have q1 : decide (((i : Nat) : Int) < ((ops.length : Nat) : Int)) = true := decide_eq_true (by omega)
      have p0 : (0 : Int) ≤ ((i : Nat) : Int) := by omega
      have p1 : ((i : Nat) : Int) < ((ops.length : Nat) : Int) := by omega
      obtain ⟨ad, rfl, hcell⟩ := (HO.out.below hB).2 (by omega)
      have hx := hcell i ops[i] (List.getElem?_eq_getElem hlt)
      have hkz := HZ.out _ (List.getElem_mem hlt)
      generalize ops[i] = x at *
      obtain ⟨kd, other, k, k2, v, ii, beyond⟩ := x
      have c0 : wr.cell? (ad.add (i * 7)) = some (.int .i64 kd) := hx.1
      have c1 : wr.cell? ⟨(ad.add (i * 7)).block, (ad.add (i * 7)).off + 1, none⟩ = some (.bool other) := hx.2 1 _ (by omega) rfl
      have c2 : wr.cell? ⟨(ad.add (i * 7)).block, (ad.add (i * 7)).off + 2, none⟩ = some (.string k) := hx.2 2 _ (by omega) rfl
      have c3 : wr.cell? ⟨(ad.add (i * 7)).block, (ad.add (i * 7)).off + 3, none⟩ = some (.string k2) := hx.2 3 _ (by omega) rfl
      have c4 : wr.cell? ⟨(ad.add (i * 7)).block, (ad.add (i * 7)).off + 4, none⟩ = some (.int .i64 v) := hx.2 4 _ (by omega) rfl
      have c5 : wr.cell? ⟨(ad.add (i * 7)).block, (ad.add (i * 7)).off + 5, none⟩ = some (.int .i64 ii) := hx.2 5 _ (by omega) rfl
      have c6 : wr.cell? ⟨(ad.add (i * 7)).block, (ad.add (i * 7)).off + 6, none⟩ = some (.bool beyond) := hx.2 6 _ (by omega) rfl
      replace p0 := eq_true p0
      replace p1 := eq_true p1
      have hbx := below_mk (Below.refl wr.heap.size wr) (.cells #[.int .i64 kd, .bool other, .string k, .string k2, .int .i64 v, .int .i64 ii, .bool beyond] 46)
      have hnx := heap_alloc_new wr (.cells #[.int .i64 kd, .bool other, .string k, .string k2, .int .i64 v, .int .i64 ii, .bool beyond] 46)
      have HPX := Aside0.mk (hP.below hbx)
      have HBX := Aside0.mk (hB.trans (hbx.mono hB.size))
      have hkz' : k.size ≤ 281474976710656 := hkz
      have hmain : Aside0 (∀ W b0' b1' l0' l1', PlaysAt order (w.heap.size + 2) b0' b1' s l0' l1' W → l0'.length ≤ i + 1 → l1'.length ≤ i + 1 → Below w.heap.size w W → Aside0 (PlaysInv order (w.heap.size + 2) s w (i + 1) W)) := ⟨fun W b0' b1' l0' l1' h1 h2 h3 h4 => ⟨h4, b0', b1', l0', l1', h2, h3, h1⟩⟩
      clear hB hP hcell hx hbx hkz
      obtain ⟨q, hq⟩ : ∃ q, q = wr.heap.size := ⟨_, rfl⟩
      have HQ := Aside0.mk hq
      cases other with
      | false =>
        have z0 : (wr.alloc (.cells #[.int .i64 kd, .bool false, .string k, .string k2, .int .i64 v, .int .i64 ii, .bool beyond] 46)).cell? ⟨wr.heap.size, 0, none⟩ = some (.int .i64 kd) := (blk_cell hnx 0).trans rfl
        have z1 : (wr.alloc (.cells #[.int .i64 kd, .bool false, .string k, .string k2, .int .i64 v, .int .i64 ii, .bool beyond] 46)).cell? ⟨wr.heap.size, 1, none⟩ = some (.bool false) := (blk_cell hnx 1).trans rfl
        have z2 : (wr.alloc (.cells #[.int .i64 kd, .bool false, .string k, .string k2, .int .i64 v, .int .i64 ii, .bool beyond] 46)).cell? ⟨wr.heap.size, 2, none⟩ = some (.string k) := (blk_cell hnx 2).trans rfl
        have z3 : (wr.alloc (.cells #[.int .i64 kd, .bool false, .string k, .string k2, .int .i64 v, .int .i64 ii, .bool beyond] 46)).cell? ⟨wr.heap.size, 3, none⟩ = some (.string k2) := (blk_cell hnx 3).trans rfl
        have z4 : (wr.alloc (.cells #[.int .i64 kd, .bool false, .string k, .string k2, .int .i64 v, .int .i64 ii, .bool beyond] 46)).cell? ⟨wr.heap.size, 4, none⟩ = some (.int .i64 v) := (blk_cell hnx 4).trans rfl
        have z5 : (wr.alloc (.cells #[.int .i64 kd, .bool false, .string k, .string k2, .int .i64 v, .int .i64 ii, .bool beyond] 46)).cell? ⟨wr.heap.size, 5, none⟩ = some (.int .i64 ii) := (blk_cell hnx 5).trans rfl
        have z6 : (wr.alloc (.cells #[.int .i64 kd, .bool false, .string k, .string k2, .int .i64 v, .int .i64 ii, .bool beyond] 46)).cell? ⟨wr.heap.size, 6, none⟩ = some (.bool beyond) := (blk_cell hnx 6).trans rfl
        clear hnx
        by_cases hk0 : kd = 0
        · skip
          subst hk0
          go_wp2_with fail
          rw [← hq] at z0 z1 z2 z3 z4 z5 z6 ⊢
          clear hq
          generalize (wr.alloc (.cells #[.int .i64 0, .bool false, .string k, .string k2, .int .i64 v, .int .i64 ii, .bool beyond] 46)) = W1 at *
          have HC := Aside0.mk ((HPX.out.below (below_drew (Below.refl _ _))).change0 0 v ii k k2 false beyond hkz' (by omega))
          have hlc := Aside0.mk (chL_length l0 0 v k)
          have hB' := Aside0.mk (HBX.out.trans ((below_drew (Below.refl W1.heap.size W1)).mono HBX.out.size))
          clear HPX HBX
          go_still_tail 3, (by kernel_rfl)
          change wpList _ _ _ _ _ W1.drew
          clear c0 c1 c2 c3 c4 c5 c6 z0 z1 z2 z3 z4 z5 z6
          generalize W1.drew = W2 at *
          go_wp2_with fail
          refine HC.out.mono ?_
          rintro e W3 ⟨rfl, hP3, hb3⟩
          have HI := hmain.out W3 _ _ _ _ hP3 (Nat.le_trans hlc.out (by omega)) (by omega) (hB'.out.trans (hb3.mono (by omega)))
          clear hP3 hb3 HC hmain hlc
          go_wp2_with fail
          go_roundw
          case measure => show ops.length - (i + 1) < ops.length - i; omega
          case rel => exact ⟨i + 1, by first | rfl | (simp; done) | (congr 1), by omega, HI⟩
        by_cases hk1 : kd = 1
        · skip
          subst hk1
          go_wp2_with fail
          rw [← hq] at z0 z1 z2 z3 z4 z5 z6 ⊢
          clear hq
          generalize (wr.alloc (.cells #[.int .i64 1, .bool false, .string k, .string k2, .int .i64 v, .int .i64 ii, .bool beyond] 46)) = W1 at *
          have HC := Aside0.mk ((HPX.out.below (below_drew (Below.refl _ _))).change0 1 v ii k k2 false beyond hkz' (by omega))
          have hlc := Aside0.mk (chL_length l0 1 v k)
          have hB' := Aside0.mk (HBX.out.trans ((below_drew (Below.refl W1.heap.size W1)).mono HBX.out.size))
          clear HPX HBX
          go_still_tail 3, (by kernel_rfl)
          change wpList _ _ _ _ _ W1.drew
          clear c0 c1 c2 c3 c4 c5 c6 z0 z1 z2 z3 z4 z5 z6
          generalize W1.drew = W2 at *
          go_wp2_with fail
          refine HC.out.mono ?_
          rintro e W3 ⟨rfl, hP3, hb3⟩
          have HI := hmain.out W3 _ _ _ _ hP3 (Nat.le_trans hlc.out (by omega)) (by omega) (hB'.out.trans (hb3.mono (by omega)))
          clear hP3 hb3 HC hmain hlc
          go_wp2_with fail
          go_roundw
          case measure => show ops.length - (i + 1) < ops.length - i; omega
          case rel => exact ⟨i + 1, by first | rfl | (simp; done) | (congr 1), by omega, HI⟩
        by_cases hk9 : kd = 9
        · skip
          subst hk9
          go_wp2_with fail
          rw [← hq] at z0 z1 z2 z3 z4 z5 z6 ⊢
          clear hq
          generalize (wr.alloc (.cells #[.int .i64 9, .bool false, .string k, .string k2, .int .i64 v, .int .i64 ii, .bool beyond] 46)) = W1 at *
          obtain ⟨f, lv0, lv1, hh, hT0, hT1, hR0, hR1⟩ := HPX.out
          obtain ⟨A0, cc0, rfl, _, _⟩ := Kd.R_reads hR0
          obtain ⟨A1, cc1, rfl, _, _⟩ := Kd.R_reads hR1
          have HP2 := Aside0.mk (HPX.out.below (below_drew (Below.refl _ _)))
          have HC := Aside0.mk (clone_calls (hT0.below (below_drew (Below.refl _ _))))
          have hB' := Aside0.mk (HBX.out.trans ((below_drew (Below.refl W1.heap.size W1)).mono HBX.out.size))
          have y0 : W1.cell? ⟨s, 0, none⟩ = some (.pointer (some ⟨b0, 0, none⟩)) := (blk_cell hh 0).trans rfl
          have y1 : W1.cell? ⟨s, 1, none⟩ = some (.slice A0 l0.length cc0) := (blk_cell hh 1).trans rfl
          have y2 : W1.cell? ⟨s, 2, none⟩ = some (.pointer (some ⟨b1, 0, none⟩)) := (blk_cell hh 2).trans rfl
          have y3 : W1.cell? ⟨s, 3, none⟩ = some (.slice A1 l1.length cc1) := (blk_cell hh 3).trans rfl
          have hsl := blk_lt hh
          have HCL : Aside0 (∀ W5, Below W1.drew.heap.size W1.drew W5 → (W5.cell? ⟨s, 0, none⟩ = some (.pointer (some ⟨b0, 0, none⟩)) ∧ W5.cell? ⟨s, 1, none⟩ = some (.slice A0 l0.length cc0) ∧ W5.cell? ⟨s, 2, none⟩ = some (.pointer (some ⟨b1, 0, none⟩)) ∧ W5.cell? ⟨s, 3, none⟩ = some (.slice A1 l1.length cc1)) ∧ W5.frozen? ⟨s, 2, none⟩ = false ∧ W5.frozen? ⟨s, 3, none⟩ = false) := ⟨fun W5 hb => by
            have h5 := (hb.block _ hsl).trans hh
            exact ⟨⟨(blk_cell h5 0).trans rfl, (blk_cell h5 1).trans rfl, (blk_cell h5 2).trans rfl, (blk_cell h5 3).trans rfl⟩, blk_frozen h5 _, blk_frozen h5 _⟩⟩
          clear hh hT0 hT1 hR0 hR1 HPX HBX f c0 c1 c2 c3 c4 c5 c6
          go_region_with (go_at_call 29; refine HC.out.mono ?_; rintro e w5 ⟨rfl, hb5, hT5⟩; obtain ⟨⟨u0, u1, u2, u3⟩, f2, f3⟩ := HCL.out _ hb5; have HB5 := Aside0.mk hb5; have HT5 := Aside0.mk hT5; clear hb5 hT5)
          all_goals
            have hcl : PlaysAt order (w.heap.size + 2) b0 W1.heap.size s l0 l0 ((w5.setCell ⟨s, 2, none⟩ (.pointer (some ⟨W1.heap.size, 0, none⟩))).setCell ⟨s, 3, none⟩ (.slice A0 l0.length cc0)) ∧ Below (w.heap.size + 2) W1.drew ((w5.setCell ⟨s, 2, none⟩ (.pointer (some ⟨W1.heap.size, 0, none⟩))).setCell ⟨s, 3, none⟩ (.slice A0 l0.length cc0)) :=
              HP2.out.clone0 (show W1.drew.cell? ⟨s, 1, none⟩ = _ from y1) (Nat.le_refl _) HB5.out HT5.out
            clear y0 y1 y2 y3 u0 u1 u2 u3 f2 f3 z0 z1 z2 z3 z4 z5 z6
            generalize (w5.setCell ⟨s, 2, none⟩ (.pointer (some ⟨W1.heap.size, 0, none⟩))).setCell ⟨s, 3, none⟩ (.slice A0 l0.length cc0) = W6 at *
            obtain ⟨hP6, hb6⟩ := hcl
            have HI := hmain.out W6 _ _ _ _ hP6 (by omega) (by omega) (hB'.out.trans (hb6.mono (by omega)))
            obtain ⟨_, lv0', lv1', hh6, _⟩ := hP6
            have x2 : W6.cell? ⟨s, 2, none⟩ = some (.pointer (some ⟨W1.heap.size, 0, none⟩)) := (blk_cell hh6 2).trans rfl
            clear hh6 hb6 HC HP2 HCL hmain HB5 HT5
            go_wp2_with fail
            go_roundw
            case measure => show ops.length - (i + 1) < ops.length - i; omega
            case rel => exact ⟨i + 1, by first | rfl | (simp; done) | (congr 1), by omega, HI⟩
        · skip
          have n0a : decide (kd = 0) = false := decide_eq_false hk0
          have n0b : (kd = 0) = False := eq_false hk0
          have n0c : (kd == 0) = false := by simpa using hk0
          have n1a : decide (kd = 1) = false := decide_eq_false hk1
          have n1b : (kd = 1) = False := eq_false hk1
          have n1c : (kd == 1) = false := by simpa using hk1
          have n9a : decide (kd = 9) = false := decide_eq_false hk9
          have n9b : (kd = 9) = False := eq_false hk9
          have n9c : (kd == 9) = false := by simpa using hk9
          go_wp2_with fail
          rw [← hq] at z0 z1 z2 z3 z4 z5 z6 ⊢
          clear hq
          generalize (wr.alloc (.cells #[.int .i64 kd, .bool false, .string k, .string k2, .int .i64 v, .int .i64 ii, .bool beyond] 46)) = W1 at *
          have HC := Aside0.mk ((HPX.out.below (below_drew (Below.refl _ _))).ask0 (by omega) false beyond k k2 kd v ii)
          have hB' := Aside0.mk (HBX.out.trans ((below_drew (Below.refl W1.heap.size W1)).mono HBX.out.size))
          clear HPX HBX
          go_still_tail 4, (by kernel_rfl)
          change wpList _ _ _ _ _ W1.drew
          clear c0 c1 c2 c3 c4 c5 c6 z0 z1 z2 z3 z4 z5 z6
          generalize W1.drew = W2 at *
          go_wp2_with fail
          refine HC.out.mono ?_
          rintro e W3 ⟨rfl, hP3, hb3⟩
          have HI := hmain.out W3 _ _ _ _ hP3 (by omega) (by omega) (hB'.out.trans (hb3.mono (by omega)))
          clear hP3 hb3 HC hmain
          go_wp2_with fail
          go_roundw
          case measure => show ops.length - (i + 1) < ops.length - i; omega
          case rel => exact ⟨i + 1, by first | rfl | (simp; done) | (congr 1), by omega, HI⟩
      | true =>
        have z0 : (wr.alloc (.cells #[.int .i64 kd, .bool true, .string k, .string k2, .int .i64 v, .int .i64 ii, .bool beyond] 46)).cell? ⟨wr.heap.size, 0, none⟩ = some (.int .i64 kd) := (blk_cell hnx 0).trans rfl
        have z1 : (wr.alloc (.cells #[.int .i64 kd, .bool true, .string k, .string k2, .int .i64 v, .int .i64 ii, .bool beyond] 46)).cell? ⟨wr.heap.size, 1, none⟩ = some (.bool true) := (blk_cell hnx 1).trans rfl
        have z2 : (wr.alloc (.cells #[.int .i64 kd, .bool true, .string k, .string k2, .int .i64 v, .int .i64 ii, .bool beyond] 46)).cell? ⟨wr.heap.size, 2, none⟩ = some (.string k) := (blk_cell hnx 2).trans rfl
        have z3 : (wr.alloc (.cells #[.int .i64 kd, .bool true, .string k, .string k2, .int .i64 v, .int .i64 ii, .bool beyond] 46)).cell? ⟨wr.heap.size, 3, none⟩ = some (.string k2) := (blk_cell hnx 3).trans rfl
        have z4 : (wr.alloc (.cells #[.int .i64 kd, .bool true, .string k, .string k2, .int .i64 v, .int .i64 ii, .bool beyond] 46)).cell? ⟨wr.heap.size, 4, none⟩ = some (.int .i64 v) := (blk_cell hnx 4).trans rfl
        have z5 : (wr.alloc (.cells #[.int .i64 kd, .bool true, .string k, .string k2, .int .i64 v, .int .i64 ii, .bool beyond] 46)).cell? ⟨wr.heap.size, 5, none⟩ = some (.int .i64 ii) := (blk_cell hnx 5).trans rfl
        have z6 : (wr.alloc (.cells #[.int .i64 kd, .bool true, .string k, .string k2, .int .i64 v, .int .i64 ii, .bool beyond] 46)).cell? ⟨wr.heap.size, 6, none⟩ = some (.bool beyond) := (blk_cell hnx 6).trans rfl
        clear hnx
        by_cases hk0 : kd = 0
        · skip
          subst hk0
          go_wp2_with fail
          rw [← hq] at z0 z1 z2 z3 z4 z5 z6 ⊢
          clear hq
          generalize (wr.alloc (.cells #[.int .i64 0, .bool true, .string k, .string k2, .int .i64 v, .int .i64 ii, .bool beyond] 46)) = W1 at *
          have HC := Aside0.mk ((HPX.out.below (below_drew (Below.refl _ _))).change1 0 v ii k k2 true beyond hkz' (by omega))
          have hlc := Aside0.mk (chL_length l1 0 v k)
          have hB' := Aside0.mk (HBX.out.trans ((below_drew (Below.refl W1.heap.size W1)).mono HBX.out.size))
          clear HPX HBX
          go_still_tail 3, (by kernel_rfl)
          change wpList _ _ _ _ _ W1.drew
          clear c0 c1 c2 c3 c4 c5 c6 z0 z1 z2 z3 z4 z5 z6
          generalize W1.drew = W2 at *
          go_wp2_with fail
          refine HC.out.mono ?_
          rintro e W3 ⟨rfl, hP3, hb3⟩
          have HI := hmain.out W3 _ _ _ _ hP3 (by omega) (Nat.le_trans hlc.out (by omega)) (hB'.out.trans (hb3.mono (by omega)))
          clear hP3 hb3 HC hmain hlc
          go_wp2_with fail
          go_roundw
          case measure => show ops.length - (i + 1) < ops.length - i; omega
          case rel => exact ⟨i + 1, by first | rfl | (simp; done) | (congr 1), by omega, HI⟩
        by_cases hk1 : kd = 1
        · skip
          subst hk1
          go_wp2_with fail
          rw [← hq] at z0 z1 z2 z3 z4 z5 z6 ⊢
          clear hq
          generalize (wr.alloc (.cells #[.int .i64 1, .bool true, .string k, .string k2, .int .i64 v, .int .i64 ii, .bool beyond] 46)) = W1 at *
          have HC := Aside0.mk ((HPX.out.below (below_drew (Below.refl _ _))).change1 1 v ii k k2 true beyond hkz' (by omega))
          have hlc := Aside0.mk (chL_length l1 1 v k)
          have hB' := Aside0.mk (HBX.out.trans ((below_drew (Below.refl W1.heap.size W1)).mono HBX.out.size))
          clear HPX HBX
          go_still_tail 3, (by kernel_rfl)
          change wpList _ _ _ _ _ W1.drew
          clear c0 c1 c2 c3 c4 c5 c6 z0 z1 z2 z3 z4 z5 z6
          generalize W1.drew = W2 at *
          go_wp2_with fail
          refine HC.out.mono ?_
          rintro e W3 ⟨rfl, hP3, hb3⟩
          have HI := hmain.out W3 _ _ _ _ hP3 (by omega) (Nat.le_trans hlc.out (by omega)) (hB'.out.trans (hb3.mono (by omega)))
          clear hP3 hb3 HC hmain hlc
          go_wp2_with fail
          go_roundw
          case measure => show ops.length - (i + 1) < ops.length - i; omega
          case rel => exact ⟨i + 1, by first | rfl | (simp; done) | (congr 1), by omega, HI⟩
        by_cases hk9 : kd = 9
        · skip
          subst hk9
          go_wp2_with fail
          rw [← hq] at z0 z1 z2 z3 z4 z5 z6 ⊢
          clear hq
          generalize (wr.alloc (.cells #[.int .i64 9, .bool true, .string k, .string k2, .int .i64 v, .int .i64 ii, .bool beyond] 46)) = W1 at *
          obtain ⟨f, lv0, lv1, hh, hT0, hT1, hR0, hR1⟩ := HPX.out
          obtain ⟨A0, cc0, rfl, _, _⟩ := Kd.R_reads hR0
          obtain ⟨A1, cc1, rfl, _, _⟩ := Kd.R_reads hR1
          have HP2 := Aside0.mk (HPX.out.below (below_drew (Below.refl _ _)))
          have HC := Aside0.mk (clone_calls (hT1.below (below_drew (Below.refl _ _))))
          have hB' := Aside0.mk (HBX.out.trans ((below_drew (Below.refl W1.heap.size W1)).mono HBX.out.size))
          have y0 : W1.cell? ⟨s, 2, none⟩ = some (.pointer (some ⟨b1, 0, none⟩)) := (blk_cell hh 2).trans rfl
          have y1 : W1.cell? ⟨s, 3, none⟩ = some (.slice A1 l1.length cc1) := (blk_cell hh 3).trans rfl
          have y2 : W1.cell? ⟨s, 0, none⟩ = some (.pointer (some ⟨b0, 0, none⟩)) := (blk_cell hh 0).trans rfl
          have y3 : W1.cell? ⟨s, 1, none⟩ = some (.slice A0 l0.length cc0) := (blk_cell hh 1).trans rfl
          have hsl := blk_lt hh
          have HCL : Aside0 (∀ W5, Below W1.drew.heap.size W1.drew W5 → (W5.cell? ⟨s, 2, none⟩ = some (.pointer (some ⟨b1, 0, none⟩)) ∧ W5.cell? ⟨s, 3, none⟩ = some (.slice A1 l1.length cc1) ∧ W5.cell? ⟨s, 0, none⟩ = some (.pointer (some ⟨b0, 0, none⟩)) ∧ W5.cell? ⟨s, 1, none⟩ = some (.slice A0 l0.length cc0)) ∧ W5.frozen? ⟨s, 0, none⟩ = false ∧ W5.frozen? ⟨s, 1, none⟩ = false) := ⟨fun W5 hb => by
            have h5 := (hb.block _ hsl).trans hh
            exact ⟨⟨(blk_cell h5 2).trans rfl, (blk_cell h5 3).trans rfl, (blk_cell h5 0).trans rfl, (blk_cell h5 1).trans rfl⟩, blk_frozen h5 _, blk_frozen h5 _⟩⟩
          clear hh hT0 hT1 hR0 hR1 HPX HBX f c0 c1 c2 c3 c4 c5 c6
          go_region_with (go_at_call 29; refine HC.out.mono ?_; rintro e w5 ⟨rfl, hb5, hT5⟩; obtain ⟨⟨u0, u1, u2, u3⟩, f2, f3⟩ := HCL.out _ hb5; have HB5 := Aside0.mk hb5; have HT5 := Aside0.mk hT5; clear hb5 hT5)
          all_goals
            have hcl : PlaysAt order (w.heap.size + 2) W1.heap.size b1 s l1 l1 ((w5.setCell ⟨s, 0, none⟩ (.pointer (some ⟨W1.heap.size, 0, none⟩))).setCell ⟨s, 1, none⟩ (.slice A1 l1.length cc1)) ∧ Below (w.heap.size + 2) W1.drew ((w5.setCell ⟨s, 0, none⟩ (.pointer (some ⟨W1.heap.size, 0, none⟩))).setCell ⟨s, 1, none⟩ (.slice A1 l1.length cc1)) :=
              HP2.out.clone1 (show W1.drew.cell? ⟨s, 3, none⟩ = _ from y1) (Nat.le_refl _) HB5.out HT5.out
            clear y0 y1 y2 y3 u0 u1 u2 u3 f2 f3 z0 z1 z2 z3 z4 z5 z6
            generalize (w5.setCell ⟨s, 0, none⟩ (.pointer (some ⟨W1.heap.size, 0, none⟩))).setCell ⟨s, 1, none⟩ (.slice A1 l1.length cc1) = W6 at *
            obtain ⟨hP6, hb6⟩ := hcl
            have HI := hmain.out W6 _ _ _ _ hP6 (by omega) (by omega) (hB'.out.trans (hb6.mono (by omega)))
            obtain ⟨_, lv0', lv1', hh6, _⟩ := hP6
            have x2 : W6.cell? ⟨s, 0, none⟩ = some (.pointer (some ⟨W1.heap.size, 0, none⟩)) := (blk_cell hh6 0).trans rfl
            clear hh6 hb6 HC HP2 HCL hmain HB5 HT5
            go_wp2_with fail
            go_roundw
            case measure => show ops.length - (i + 1) < ops.length - i; omega
            case rel => exact ⟨i + 1, by first | rfl | (simp; done) | (congr 1), by omega, HI⟩
        · skip
          have n0a : decide (kd = 0) = false := decide_eq_false hk0
          have n0b : (kd = 0) = False := eq_false hk0
          have n0c : (kd == 0) = false := by simpa using hk0
          have n1a : decide (kd = 1) = false := decide_eq_false hk1
          have n1b : (kd = 1) = False := eq_false hk1
          have n1c : (kd == 1) = false := by simpa using hk1
          have n9a : decide (kd = 9) = false := decide_eq_false hk9
          have n9b : (kd = 9) = False := eq_false hk9
          have n9c : (kd == 9) = false := by simpa using hk9
          go_wp2_with fail
          rw [← hq] at z0 z1 z2 z3 z4 z5 z6 ⊢
          clear hq
          generalize (wr.alloc (.cells #[.int .i64 kd, .bool true, .string k, .string k2, .int .i64 v, .int .i64 ii, .bool beyond] 46)) = W1 at *
          have HC := Aside0.mk ((HPX.out.below (below_drew (Below.refl _ _))).ask1 (by omega) true beyond k k2 kd v ii)
          have hB' := Aside0.mk (HBX.out.trans ((below_drew (Below.refl W1.heap.size W1)).mono HBX.out.size))
          clear HPX HBX
          go_still_tail 4, (by kernel_rfl)
          change wpList _ _ _ _ _ W1.drew
          clear c0 c1 c2 c3 c4 c5 c6 z0 z1 z2 z3 z4 z5 z6
          generalize W1.drew = W2 at *
          go_wp2_with fail
          refine HC.out.mono ?_
          rintro e W3 ⟨rfl, hP3, hb3⟩
          have HI := hmain.out W3 _ _ _ _ hP3 (by omega) (by omega) (hB'.out.trans (hb3.mono (by omega)))
          clear hP3 hb3 HC hmain
          go_wp2_with fail
          go_roundw
          case measure => show ops.length - (i + 1) < ops.length - i; omega
          case rel => exact ⟨i + 1, by first | rfl | (simp; done) | (congr 1), by omega, HI⟩
    · have q1 : decide (((i : Nat) : Int) < ((ops.length : Nat) : Int)) = false := decide_eq_false (by omega)
      have HB := Aside0.mk hB
      have HP := Aside0.mk hP
      have H0 := Aside0.mk (fun W (h : PlaysAt order (w.heap.size + 2) b0 b1 s l0 l1 W) => h.ask0 (by omega) false false ⟨#[]⟩ ⟨#[]⟩ 8 0 0)
      have H1 := Aside0.mk (fun W (h : PlaysAt order (w.heap.size + 2) b0 b1 s l0 l1 W) => h.ask1 (by omega) false false ⟨#[]⟩ ⟨#[]⟩ 8 0 0)
      have H2 := Aside0.mk (fun W (h : PlaysAt order (w.heap.size + 2) b0 b1 s l0 l1 W) => h.ask0 (by omega) false false ⟨#[]⟩ ⟨#[]⟩ 7 0 0)
      clear hB hP
      go_wp2_with fail
      refine (H0.out _ HP.out).mono ?_
      rintro e W3 ⟨rfl, hP3, hb3⟩
      have HP3 := Aside0.mk hP3
      have HB3 := Aside0.mk (HB.out.trans (hb3.mono (by omega)))
      clear hP3 hb3 HP HB H0
      go_wp2_with fail
      refine (H1.out _ HP3.out).mono ?_
      rintro e W4 ⟨rfl, hP4, hb4⟩
      have HP4 := Aside0.mk hP4
      have HB4 := Aside0.mk (HB3.out.trans (hb4.mono (by omega)))
      clear hP4 hb4 HP3 HB3 H1
      go_wp2_with fail
      refine (H2.out _ HP4.out).mono ?_
      rintro e W5 ⟨rfl, hP5, hb5⟩
      have HB5 := Aside0.mk (HB4.out.trans (hb5.mono (by omega)))
      clear hP5 hb5 HP4 HB4 H2
      go_wp2_with fail
      go_ret
      exact ⟨rfl, HB5.out⟩

set_option maxRecDepth 100000 in
set_option maxHeartbeats 8000000 in
theorem plays_bad (order : Int) (h : order < 3 ∨ 64 < order) (v : Value) (w : World) :
    Calls Try.prog 28 #[.int .i64 order, v] w fun e w' => e = .returned (.bool true) ∧ Below w.heap.size w w' := by
  have hu27 := Try.underlying27
  have hu49 := Try.underlying49
  have HBE := Aside0.mk (begun_bad order h w)
  clear h
  go_enter Try.func28, Try.ntmps28
  go_wp2_with fail
  refine HBE.out.mono ?_
  rintro e w1 ⟨hB1, rfl⟩
  have hb1 := below_mk (Below.refl w1.heap.size w1) (.cells #[.pointer none, .slice none 0 0, .pointer none, .slice none 0 0] 49)
  have HB2 := Aside0.mk (hB1.trans (hb1.mono hB1.size))
  clear hB1 hb1
  have HLV := Aside0.mk (live_calls (w1.alloc (.cells #[.pointer none, .slice none 0 0, .pointer none, .slice none 0 0] 49)))
  go_wp2_with fail
  refine HLV.out.mono ?_
  rintro e w2 ⟨rfl, hb2⟩
  have HB3 := Aside0.mk (HB2.out.trans (hb2.mono HB2.out.size))
  clear hb2 HB2 HLV
  go_wp2
  go_ret
  exact ⟨rfl, HB3.out⟩

theorem treePlays_calls {a b : Value} {w : World} (h : Calls Try.prog 28 #[a, b] w fun e w' => e = .returned (.bool true) ∧ Below w.heap.size w w') :
    Calls Try.prog 8 #[a, b] w fun e w' => e = .returned (.bool true) ∧ Below w.heap.size w w' := by
  have H := Aside0.mk h
  clear h
  go_enter Try.func8, Try.ntmps8
  go_wp2_with fail
  refine H.out.mono ?_
  rintro e w' ⟨rfl, hb⟩
  go_wp2
  go_ret
  exact ⟨rfl, hb⟩
end Go.Proofs.Ytjabcdfbncglnaa
