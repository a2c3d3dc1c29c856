/- WHAT IS PROVED: TreeAnew answers true at every order and keys. -/
import Derived.Test.YtjabcdfbncglnaaKAw0
import Derived.Test.YtjabcdfbncglnaaKB16
import Derived.Test.YtjabcdfbncglnaaKB15
import Derived.Test.YtjabcdfbncglnaaKB12
import Derived.StillTailTactics
import Derived.Deep.RegionHeld3
namespace Go.Proofs.Ytjabcdfbncglnaa
open Go.RowKit Go.Proofs.YtjabcdfbncglnaaW.PrintWords Go.Proofs.YtjabcdfbncglnaaW.PrintLast Go.Proofs.YtjabcdfbncglnaaW.PrintMore
open PTreeRanks (S59 k59 z59)
set_option linter.unusedVariables false
set_option linter.unusedSimpArgs false

set_option maxRecDepth 100000 in
set_option maxHeartbeats 8000000 in
theorem anew_good (order : Nat) (h3 : 3 ≤ order) (h4 : order ≤ 64) (A1 A2 : Option Addr) (c1 c2 : Nat) (ks gs : List ByteArray) (w : World) (hC1 : Kd.C Kd.string w A1 ks.length ks) (hc1 : ks.length ≤ c1) (hn1 : ks.length ≤ 2097152) (hz1 : ∀ k ∈ ks, k.size ≤ 281474976710656)
    (hC2 : Kd.C Kd.string w A2 gs.length gs) (hc2 : gs.length ≤ c2) (hn2 : gs.length ≤ 2097152) (hz2 : ∀ k ∈ gs, k.size ≤ 281474976710656) :
    Calls Try.prog 7 #[.int .i64 (order : Nat), .slice A1 ks.length c1, .slice A2 gs.length c2] w fun e w' => e = .returned (.bool true) ∧ Below w.heap.size w w' := by
  have hu27 := Try.underlying27
  have hu46 := Try.underlying46
  have b1 : decide (((order : Nat) : Int) < 3) = false := decide_eq_false (by omega)
  have b2 : decide (((64 : Nat) : Int) < ((order : Nat) : Int)) = false := decide_eq_false (by omega)
  have b3 : decide ((64 : Int) < ((order : Nat) : Int)) = false := decide_eq_false (by omega)
  have HFA := Aside0.mk (filled_calls order h3 h4 A1 c1 ks w hC1 hc1 hn1 hz1)
  have HC1 := Aside0.mk hC1
  have HC2 := Aside0.mk hC2
  have HZ1 := Aside0.mk hz1
  have HZ2 := Aside0.mk hz2
  clear hC1 hC2 hz1 hz2
  go_enter Try.func7, Try.ntmps7
  go_wp2_with fail
  refine HFA.out.mono ?_
  rintro e w1 ⟨lav, rfl, hTa, hRa, hB1⟩
  have HFB := Aside0.mk (filled_calls order h3 h4 A2 c2 gs w1 (Kd.C_below HC2.out hB1) hc2 hn2 HZ2.out)
  have HTa := Aside0.mk hTa
  have HRa := Aside0.mk hRa
  have HB1 := Aside0.mk hB1
  clear hTa hRa hB1 HFA
  go_wp2_with fail
  refine HFB.out.mono ?_
  rintro e w2 ⟨lbv, rfl, hTb, hRb, hB2⟩
  obtain ⟨Ab, cb, rfl, _, _⟩ := Kd.R_reads hRb
  obtain ⟨Aa, ca, rfl, hca, _⟩ := Kd.R_reads HRa.out
  have hla : (fillL ks 0 []).length ≤ ks.length := by simpa using fillL_length ks 0 []
  have hlb : (fillL gs 0 []).length ≤ gs.length := by simpa using fillL_length gs 0 []
  have haw := anew_eq ks gs
  have HAW := Aside0.mk haw
  have HTb := Aside0.mk hTb
  have HB2 := Aside0.mk hB2
  clear haw hTb hRb hB2 HFB
  generalize fillL ks 0 [] = la at *
  generalize fillL gs 0 [] = lb at *
  have e1 : (w2.alloc (.cells #[.pointer (some ⟨w.heap.size + 3, 0, none⟩), .slice Aa la.length ca] 27)).heap.size = w2.heap.size + 1 := by simp
  have hba := HTa.out.lt
  have hbb := HTb.out.lt
  have hs1 := HB1.out.size
  have hs2 := HB2.out.size
  have HAN : Aside0 (AnewAt order (w.heap.size + 2) w1.heap.size (w.heap.size + 3) (w1.heap.size + 3) w2.heap.size la lb (.slice Aa la.length ca) (.slice Ab lb.length cb) ((w2.alloc (.cells #[.pointer (some ⟨w.heap.size + 3, 0, none⟩), .slice Aa la.length ca] 27)).alloc (.cells #[.pointer (some ⟨w1.heap.size + 3, 0, none⟩), .slice Ab lb.length cb] 27))) := by
    have hb := below_mk (below_mk (Below.refl w2.heap.size w2) (.cells #[.pointer (some ⟨w.heap.size + 3, 0, none⟩), .slice Aa la.length ca] 27)) (.cells #[.pointer (some ⟨w1.heap.size + 3, 0, none⟩), .slice Ab lb.length cb] 27)
    refine ⟨hba, by omega, by omega, by omega, by omega, (Below.heap_alloc _ _ _ (by omega)).trans (heap_alloc_new _ _), by rw [← e1]; exact heap_alloc_new _ _, ?_, ?_, ?_⟩
    · exact (HTa.out.gen.below HB2.out).below hb
    · exact ((HTb.out.gen.imp (fun k hk hlt => (⟨by omega, hk.2.1, by omega, by omega⟩ : OkB w1.heap.size (w1.heap.size + 3) w2.heap.size k)))).below hb
    · exact Kd.R_below (Kd.R_below (Kd.R_mono (Kd.R_bound HRa.out) (fun k hk => hk.2.2.1)) HB2.out) hb
  have HBS := Aside0.mk (HB1.out.trans ((below_mk (below_mk HB2.out (.cells #[.pointer (some ⟨w.heap.size + 3, 0, none⟩), .slice Aa la.length ca] 27)) (.cells #[.pointer (some ⟨w1.heap.size + 3, 0, none⟩), .slice Ab lb.length cb] 27)).mono HB1.out.size))
  have HLV := Aside0.mk (live_calls ((w2.alloc (.cells #[.pointer (some ⟨w.heap.size + 3, 0, none⟩), .slice Aa la.length ca] 27)).alloc (.cells #[.pointer (some ⟨w1.heap.size + 3, 0, none⟩), .slice Ab lb.length cb] 27)))
  clear HTa HTb HRa HB1 HB2 e1 hba hbb
  go_wp2_with fail
  refine HLV.out.mono ?_
  rintro e w3 ⟨rfl, hb3⟩
  have HA3 : Aside0 (AnewAt order (w.heap.size + 2) w1.heap.size (w.heap.size + 3) (w1.heap.size + 3) w2.heap.size la lb (.slice Aa la.length ca) (.slice Ab lb.length cb) w3) := by
    obtain ⟨f1, f2, f3, f4, f5, g1, g2, g3, g4, g5⟩ := HAN.out
    exact ⟨f1, f2, f3, f4, f5, (hb3.block _ (blk_lt g1)).trans g1, (hb3.block _ (blk_lt g2)).trans g2, g3.below hb3, g4.below hb3, Kd.R_below g5 hb3⟩
  have HB3 := Aside0.mk (HBS.out.trans (hb3.mono HBS.out.size))
  obtain ⟨na, hna⟩ : ∃ na, na = w.heap.size + 2 := ⟨_, rfl⟩
  obtain ⟨s, hs⟩ : ∃ s, s = w2.heap.size := ⟨_, rfl⟩
  have HNA := Aside0.mk hna
  clear HAN HBS HLV hb3
  go_wp2
  go_loopw [9] (fun v W => ∃ m : Nat, v = .int .i64 ((m : Int) - 1) ∧ m ≤ ks.length ∧ Aside0 (Below w.heap.size w W ∧ AnewAt order (w.heap.size + 2) w1.heap.size (w.heap.size + 3) (w1.heap.size + 3) w2.heap.size la (backL la (ks.drop m) lb) (.slice Aa la.length ca) (.slice Ab lb.length cb) W)) (fun v W => (RowKit.intOf v + 1).toNat)
  case atStart => exact ⟨ks.length, by first | rfl | (simp; done), Nat.le_refl _, ⟨HB3.out, by rw [List.drop_length]; exact HA3.out⟩⟩
  case round =>
    clear HA3 HB3
    obtain ⟨m, hv, hm, ⟨hB, hA⟩⟩ := hrel
    cases m with
    | zero =>
      rw [show (((0 : Nat) : Int) - 1) = -1 from rfl] at hv
      subst hv
      rw [List.drop_zero] at hA
      have HA := Aside0.mk hA
      have HB := Aside0.mk hB
      clear hA hB
      go_wp2
      go_loopw [71] (fun v W => ∃ j : Nat, v = .int .i64 (j : Nat) ∧ j ≤ gs.length ∧ Aside0 (Below w.heap.size w W ∧ AnewAt order (w.heap.size + 2) w1.heap.size (w.heap.size + 3) (w1.heap.size + 3) w2.heap.size la (goneL la (gs.take j) (backL la ks lb)) (.slice Aa la.length ca) (.slice Ab lb.length cb) W)) (fun v W => gs.length - (RowKit.intOf v).toNat)
      case atStart => exact ⟨0, rfl, Nat.zero_le _, ⟨HB.out, HA.out⟩⟩
      case round =>
        clear HA HB
        obtain ⟨j, rfl, hj, ⟨hB, hA⟩⟩ := hrel
        by_cases hlt : j < gs.length
        · have b1 : decide (((j : Nat) : Int) < ((gs.length : Nat) : Int)) = true := decide_eq_true (by omega)
          have p0 : (0 : Int) ≤ ((j : Nat) : Int) := by omega
          have p1 : ((j : Nat) : Int) < ((gs.length : Nat) : Int) := by omega
          obtain ⟨ad, rfl, hcell⟩ := Kd.at_string (Kd.C_below HC2.out hB) j p0 p1
          have hcell : wr.cell? (ad.add j) = some (.string gs[j]) := by
            rw [rdOf_eq _ _ hlt] at hcell
            exact hcell
          have y0 : wr.cell? ⟨w2.heap.size, 1, none⟩ = some (.slice Aa la.length ca) := (blk_cell hA.2.2.2.2.2.1 1).trans rfl
          have y1 : wr.cell? ⟨w2.heap.size + 1, 0, none⟩ = some (.pointer (some ⟨w1.heap.size + 3, 0, none⟩)) := (blk_cell hA.2.2.2.2.2.2.1 0).trans rfl
          have HHAS := Aside0.mk (PTreeRanks.keystoneref05_Has.calls (la.length + 1) Aa ca la gs[j] _ wr (Kd.R_reads' hA.2.2.2.2.2.2.2.2.2).2.2 hca (refHas gs[j] hA.2.2.2.2.2.2.2.1.sorted (by omega)))
          have HTK : Aside0 (goneL la (gs.take (j + 1)) (backL la ks lb) = if has (keysOf la) gs[j] then goneL la (gs.take j) (backL la ks lb) else delL (goneL la (gs.take j) (backL la ks lb)) gs[j]) := ⟨by rw [List.take_succ_eq_append_getElem hlt, goneL_snoc]⟩
          have hgl := goneL_length la (gs.take j) (backL la ks lb)
          have hbl := backL_length la ks lb
          have HDEL := Aside0.mk (fun W (h : Below wr.heap.size wr W) => (hA.below h).delete gs[j] (by omega))
          have HA := Aside0.mk hA
          have HB := Aside0.mk hB
          clear hA hB hgl hbl
          replace p0 := eq_true p0
          replace p1 := eq_true p1
          generalize gs[j] = k at *
          go_wp2_with fail
          refine HHAS.out.mono ?_
          rintro e w' ⟨rfl, hD⟩
          obtain ⟨nd, rfl⟩ := hD
          have hb4 := pw_below_drewN (Below.refl wr.heap.size wr) nd
          have y1' : (wr.drewN nd).cell? ⟨w2.heap.size + 1, 0, none⟩ = some (.pointer (some ⟨w1.heap.size + 3, 0, none⟩)) := y1
          have HA4 := Aside0.mk (HA.out.below hb4)
          have HB4 := Aside0.mk (HB.out.trans (hb4.mono HB.out.size))
          have HDEL4 := Aside0.mk (HDEL.out _ hb4)
          clear y0 y1 hcell HA HB HHAS HDEL hb4
          generalize wr.drewN nd = W4 at *
          cases hh : has (keysOf la) k with
          | true =>
            have HT := HTK.out
            rw [hh, if_pos rfl] at HT
            have HT := Aside0.mk HT
            clear HTK HDEL4
            go_wp2
            go_roundw
            case measure => show gs.length - (j + 1) < gs.length - j; omega
            case rel => exact ⟨j + 1, by first | rfl | (simp; done) | (congr 1), hlt, ⟨HB4.out, by rw [HT.out]; exact HA4.out⟩⟩
          | false =>
            have HT := HTK.out
            rw [hh, if_neg (by decide)] at HT
            have HT := Aside0.mk HT
            clear HTK
            go_wp2_with fail
            refine HDEL4.out.mono ?_
            rintro e W5 ⟨⟨v5, rfl⟩, hg5, hA5⟩
            have HA5 := Aside0.mk hA5
            have HB5 := Aside0.mk (HB4.out.trans (grownBy_below hg5 HB4.out.size (fun k e => by injection e with e; have := HB4.out.size; have := HA4.out.1; have := HA4.out.2.1; omega)))
            clear hg5 hA5 HDEL4
            go_wp2
            go_roundw
            case measure => show gs.length - (j + 1) < gs.length - j; omega
            case rel => exact ⟨j + 1, by first | rfl | (simp; done) | (congr 1), hlt, ⟨HB5.out, by rw [HT.out]; exact HA5.out⟩⟩
        · have b1 : decide (((j : Nat) : Int) < ((gs.length : Nat) : Int)) = false := decide_eq_false (by omega)
          obtain rfl : j = gs.length := by omega
          rw [List.take_length, HAW.out] at hA
          have y0 : wr.cell? ⟨w2.heap.size, 1, none⟩ = some (.slice Aa la.length ca) := (blk_cell hA.2.2.2.2.2.1 1).trans rfl
          have y1 : wr.cell? ⟨w2.heap.size + 1, 1, none⟩ = some (.slice Ab lb.length cb) := (blk_cell hA.2.2.2.2.2.2.1 1).trans rfl
          have yf : wr.frozen? ⟨w2.heap.size + 1, 1, none⟩ = false := blk_frozen hA.2.2.2.2.2.2.1 1
          have HA := Aside0.mk hA.same
          have hg17 : wr.grownBy (wr.setCell ⟨w2.heap.size + 1, 1, none⟩ (.slice Aa la.length ca)) (some (w2.heap.size + 1)) := gb_set (grownBy_refl _ _) _ _
          have HB := Aside0.mk (hB.trans (grownBy_below hg17 hB.size (fun k e => by injection e with e; have := hA.1; have := hA.2.1; have := hA.2.2.1; omega)))
          clear hg17
          have HN : ∀ W, AnewAt order (w.heap.size + 2) w1.heap.size (w.heap.size + 3) (w1.heap.size + 3) w2.heap.size la la (.slice Aa la.length ca) (.slice Aa la.length ca) W →
              Calls Try.prog 19 #[.pointer (some ⟨w2.heap.size + 1, 0, none⟩), .agg #[.int .i64 8, .bool false, .string ⟨#[]⟩, .string ⟨#[]⟩, .int .i64 0, .int .i64 0, .bool false], .int .i64 (order : Nat)] W fun e w' => e = .returned (.bool true) ∧ Below W.heap.size W w' := fun W h =>
            asks_nodes h3 h4 h.tlb (by omega) ((blk_cell h.2.2.2.2.2.2.1 0).trans rfl) ((blk_cell h.2.2.2.2.2.2.1 1).trans rfl) (Kd.R_reads' h.2.2.2.2.2.2.2.2.2).2.2 hca _ _ _ _ _ _
          have HM : ∀ W, AnewAt order (w.heap.size + 2) w1.heap.size (w.heap.size + 3) (w1.heap.size + 3) w2.heap.size la la (.slice Aa la.length ca) (.slice Aa la.length ca) W →
              Calls Try.prog 19 #[.pointer (some ⟨w2.heap.size, 0, none⟩), .agg #[.int .i64 8, .bool false, .string ⟨#[]⟩, .string ⟨#[]⟩, .int .i64 0, .int .i64 0, .bool false], .int .i64 (order : Nat)] W fun e w' => e = .returned (.bool true) ∧ Below W.heap.size W w' := fun W h =>
            asks_nodes h3 h4 h.tla (by omega) ((blk_cell h.2.2.2.2.2.1 0).trans rfl) ((blk_cell h.2.2.2.2.2.1 1).trans rfl) (Kd.R_reads' h.2.2.2.2.2.2.2.2.2).2.2 hca _ _ _ _ _ _
          have HN := Aside0.mk HN
          have HM := Aside0.mk HM
          clear hA hB
          go_wp2_with fail
          refine (HN.out _ HA.out).mono ?_
          rintro e W6 ⟨rfl, hb6⟩
          have HA6 := Aside0.mk (HA.out.below hb6)
          have HB6 := Aside0.mk (HB.out.trans (hb6.mono HB.out.size))
          clear HA HB hb6 y0 y1 yf HN
          go_wp2_with fail
          refine (HM.out _ HA6.out).mono ?_
          rintro e W7 ⟨rfl, hb7⟩
          have HA7 := Aside0.mk (HA6.out.below hb7)
          have HB7 := Aside0.mk (HB6.out.trans (hb7.mono HB6.out.size))
          have y0 : W7.cell? ⟨w2.heap.size, 1, none⟩ = some (.slice Aa la.length ca) := (blk_cell HA7.out.2.2.2.2.2.1 1).trans rfl
          clear HA6 HB6 hb7 HM
          go_wp2_with fail
          go_loopw [101] (fun v W => ∃ j : Nat, v = .int .i64 (j : Nat) ∧ j ≤ la.length ∧ Aside0 (Below w.heap.size w W ∧ AnewAt order (w.heap.size + 2) w1.heap.size (w.heap.size + 3) (w1.heap.size + 3) w2.heap.size la la (.slice Aa la.length ca) (.slice Aa la.length ca) W)) (fun v W => la.length - (RowKit.intOf v).toNat)
          case atStart => exact ⟨0, rfl, Nat.zero_le _, ⟨HB7.out, HA7.out⟩⟩
          case round =>
            clear HA7 HB7 y0
            obtain ⟨j, rfl, hj, ⟨hB, hA⟩⟩ := hrel
            by_cases hlt : j < la.length
            · have b1 : decide (((j : Nat) : Int) < ((la.length : Nat) : Int)) = true := decide_eq_true (by omega)
              obtain ⟨ad, rfl, g0, g1⟩ := PTreeRanks.at_T59 (Kd.R_reads' hA.2.2.2.2.2.2.2.2.2).2.2 j (by omega) (by omega)
              rw [rd_eq la j hlt, Int.toNat_natCast] at g0 g1
              have p0 : ((0 : Int) ≤ ((j : Nat) : Int)) = True := eq_true (by omega)
              have p1 : (((j : Nat) : Int) < ((la.length : Nat) : Int)) = True := eq_true (by omega)
              have HE : Aside0 (la[j]? = some la[j]) := ⟨List.getElem?_eq_getElem hlt⟩
              generalize la[j] = x at *
              obtain ⟨k, vv⟩ := x
              replace g0 : _ = some (Value.string k) := g0
              have hbx := below_mk (Below.refl wr.heap.size wr) (.cells #[.string k, .int .i64 vv] 59)
              have HA8 := Aside0.mk (hA.below hbx)
              have HB8 := Aside0.mk (hB.trans (hbx.mono hB.size))
              have hn8 := heap_alloc_new wr (.cells #[.string k, .int .i64 vv] 59)
              have HAT := Aside0.mk (TL_at HA8.out.tlb (by omega) j)
              rw [if_neg (by omega), Int.toNat_natCast, HE.out] at HAT
              have x0 : (wr.alloc (.cells #[.string k, .int .i64 vv] 59)).cell? ⟨wr.heap.size, 0, none⟩ = some (.string k) := (blk_cell hn8 0).trans rfl
              have x1 : (wr.alloc (.cells #[.string k, .int .i64 vv] 59)).cell? ⟨wr.heap.size, 1, none⟩ = some (.int .i64 vv) := (blk_cell hn8 1).trans rfl
              have y1 : (wr.alloc (.cells #[.string k, .int .i64 vv] 59)).cell? ⟨w2.heap.size + 1, 0, none⟩ = some (.pointer (some ⟨w1.heap.size + 3, 0, none⟩)) := (blk_cell HA8.out.2.2.2.2.2.2.1 0).trans rfl
              clear hA hB hbx hn8
              have HAT : Aside0 (Calls Try.prog 13 #[.pointer (some ⟨w1.heap.size + 3, 0, none⟩), .int .i64 (j : Nat)] (wr.alloc (.cells #[.string k, .int .i64 vv] 59)) fun e w' => e = .returned (.tuple #[.string k, .int .i64 vv, .bool true]) ∧ Drawn0 (wr.alloc (.cells #[.string k, .int .i64 vv] 59)) w') := HAT
              go_wp2_with fail
              refine HAT.out.mono ?_
              rintro e W9 ⟨rfl, ⟨nd, rfl⟩⟩
              have hb9 := pw_below_drewN (Below.refl (wr.alloc (.cells #[.string k, .int .i64 vv] 59)).heap.size (wr.alloc (.cells #[.string k, .int .i64 vv] 59))) nd
              have HA9 := Aside0.mk (HA8.out.below hb9)
              have HB9 := Aside0.mk (HB8.out.trans (hb9.mono HB8.out.size))
              replace x0 := pw_cell_below hb9 x0
              replace x1 := pw_cell_below hb9 x1
              clear HA8 HB8 hb9 HAT g0 g1 y1
              generalize (wr.alloc (.cells #[.string k, .int .i64 vv] 59)).drewN nd = W9 at *
              go_wp2_with fail
              go_roundw
              case measure => show la.length - (j + 1) < la.length - j; omega
              case rel => exact ⟨j + 1, by first | rfl | (simp; done) | (congr 1), by omega, ⟨HB9.out, HA9.out⟩⟩
            · have b1 : decide (((j : Nat) : Int) < ((la.length : Nat) : Int)) = false := decide_eq_false (by omega)
              have y0 : wr.cell? ⟨w2.heap.size, 1, none⟩ = some (.slice Aa la.length ca) := (blk_cell hA.2.2.2.2.2.1 1).trans rfl
              have y1 : wr.cell? ⟨w2.heap.size + 1, 0, none⟩ = some (.pointer (some ⟨w1.heap.size + 3, 0, none⟩)) := (blk_cell hA.2.2.2.2.2.2.1 0).trans rfl
              have HLEN : Aside0 (∀ n, Calls Try.prog 12 #[.pointer (some ⟨w1.heap.size + 3, 0, none⟩)] (wr.drewN n) fun e w' => e = .returned (.int .i64 (la.length : Nat)) ∧ Drawn0 (wr.drewN n) w') := ⟨fun n => TL_len (hA.below (pw_below_drewN (Below.refl _ _) n)).tlb⟩
              have HB8 := Aside0.mk hB
              clear hA hB
              go_wp2_with fail
              go_quiet ((go_at_call 12; exact quiet_D (HLEN.out _)))
              go_wp2
              go_ret
              exact ⟨rfl, pw_below_drewN HB8.out _⟩
    | succ j =>
      rw [show (((j + 1 : Nat) : Int) - 1) = (j : Int) from by omega] at hv
      subst hv
      obtain ⟨f1, f2, f3, f4, f5, g1, g2, g3, g4, g5⟩ := hA
      have hj : j < ks.length := hm
      have p0 : (0 : Int) ≤ ((j : Nat) : Int) := by omega
      have p1 : ((j : Nat) : Int) < ((ks.length : Nat) : Int) := by omega
      have q0 : decide ((0 : Int) ≤ ((j : Nat) : Int)) = true := decide_eq_true p0
      obtain ⟨ad, rfl, hcell⟩ := Kd.at_string (Kd.C_below HC1.out hB) j p0 p1
      have hcell : wr.cell? (ad.add j) = some (.string ks[j]) := by
        rw [rdOf_eq _ _ hj] at hcell
        exact hcell
      have y0 : wr.cell? ⟨w2.heap.size, 1, none⟩ = some (.slice Aa la.length ca) := (blk_cell g1 1).trans rfl
      have y1 : wr.cell? ⟨w2.heap.size + 1, 0, none⟩ = some (.pointer (some ⟨w1.heap.size + 3, 0, none⟩)) := (blk_cell g2 0).trans rfl
      have hsa : SortedK (keysOf la) := g3.sorted
      have HGET : Aside0 (∀ W, Below wr.heap.size wr W → Calls Try.prog 24 #[.slice Aa la.length ca, .string ks[j]] W fun e w' => e = .returned (.tuple #[.int .i64 (getV la ks[j]), .bool (has (keysOf la) ks[j])]) ∧ Drawn0 W w') :=
        ⟨fun W hW => PTreeRanks.keystoneref05_Get.calls (la.length + 1) Aa ca la ks[j] _ _ W (Kd.C_below (Kd.R_reads' g5).2.2 hW) hca (refGet ks[j] hsa (by omega))⟩
      have hkz := HZ1.out _ (List.getElem_mem hj)
      have hdrop : ks.drop j = ks[j] :: ks.drop (j + 1) := List.drop_eq_getElem_cons hj
      have HDROP := Aside0.mk hdrop
      have HA := Aside0.mk (show AnewAt order (w.heap.size + 2) w1.heap.size (w.heap.size + 3) (w1.heap.size + 3) w2.heap.size la (backL la (ks.drop (j + 1)) lb) (.slice Aa la.length ca) (.slice Ab lb.length cb) wr from ⟨f1, f2, f3, f4, f5, g1, g2, g3, g4, g5⟩)
      have HB := Aside0.mk hB
      replace p0 := eq_true p0
      replace p1 := eq_true p1
      clear g1 g2 g3 g4 g5 hB hsa hdrop
      have HQ1 : Aside0 (∀ n, Calls Try.prog 24 #[.slice Aa la.length ca, .string ks[j]] (wr.drewN n) fun e w' => e = .returned (.tuple #[.int .i64 (getV la ks[j]), .bool (has (keysOf la) ks[j])]) ∧ Drawn0 (wr.drewN n) w') := ⟨fun n => HGET.out _ (pw_below_drewN (Below.refl _ _) n)⟩
      clear HGET
      go_wp2
      go_quiet ((go_at_call 24; exact quiet_D (HQ1.out _)))
      have HB2 := Aside0.mk (HB.out.trans ((pw_below_drewN (Below.refl wr.heap.size wr) nq).mono HB.out.size))
      have HA2 := Aside0.mk (HA.out.below (pw_below_drewN (Below.refl _ _) nq))
      have y1' : (wr.drewN nq).cell? ⟨w2.heap.size + 1, 0, none⟩ = some (.pointer (some ⟨w1.heap.size + 3, 0, none⟩)) := y1
      have hcell' : (wr.drewN nq).cell? (ad.add j) = some (.string ks[j]) := hcell
      clear y0 y1 hcell HQ1 HA HB
      generalize wr.drewN nq = W2 at *
      go_wp2
      have hbl := backL_length la (ks.drop (j + 1)) lb
      rw [List.length_drop] at hbl
      have HPT := Aside0.mk ((HA2.out.below (below_drew (Below.refl _ _))).put ks[j] hkz (by omega) (getV la ks[j]))
      have HB3 := Aside0.mk (HB2.out.trans ((below_drew (Below.refl W2.heap.size W2)).mono HB2.out.size))
      clear hbl
      go_still_tail 7, (by kernel_rfl)
      change wpList _ _ _ _ _ W2.drew
      clear y1' hcell'
      generalize W2.drew = W3 at *
      go_wp2_with fail
      refine HPT.out.mono ?_
      rintro e W5 ⟨⟨v5, rfl⟩, hg5, hA5⟩
      have HB5 := Aside0.mk (HB3.out.trans (grownBy_below hg5 HB3.out.size (fun k e => by injection e with e; have := HB3.out.size; omega)))
      have HA5 : Aside0 (AnewAt order (w.heap.size + 2) w1.heap.size (w.heap.size + 3) (w1.heap.size + 3) w2.heap.size la (backL la (ks.drop j) lb) (.slice Aa la.length ca) (.slice Ab lb.length cb) W5) := ⟨by rw [HDROP.out]; exact hA5⟩
      clear hg5 hA5 HPT
      go_wp2
      go_roundw
      case measure => show (((j : Nat) : Int) - 1 + 1).toNat < (((j : Nat) : Int) + 1).toNat; omega
      case rel => exact ⟨j, by first | rfl | (simp; done) | (congr 1), by omega, ⟨HB5.out, HA5.out⟩⟩

set_option maxRecDepth 100000 in
set_option maxHeartbeats 8000000 in
theorem anew_bad (order : Int) (h : order < 3 ∨ 64 < order) (v v2 : Value) (w : World) :
    Calls Try.prog 7 #[.int .i64 order, v, v2] w fun e w' => e = .returned (.bool true) ∧ Below w.heap.size w w' := by
  have HLV := Aside0.mk (live_calls w)
  rcases h with h | h
  · have b1 : decide (order < 3) = true := decide_eq_true h
    go_enter Try.func7, Try.ntmps7
    go_wp2_with fail
    refine HLV.out.mono ?_
    rintro e w2 ⟨rfl, hb2⟩
    go_wp2
    go_ret
    exact ⟨rfl, hb2⟩
  · have b1 : decide (order < 3) = false := decide_eq_false (by omega)
    have b2 : decide ((64 : Int) < order) = true := decide_eq_true h
    go_enter Try.func7, Try.ntmps7
    go_wp2_with fail
    refine HLV.out.mono ?_
    rintro e w2 ⟨rfl, hb2⟩
    go_wp2
    go_ret
    exact ⟨rfl, hb2⟩
end Go.Proofs.Ytjabcdfbncglnaa
