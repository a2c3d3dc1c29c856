/- WHAT IS PROVED: the document's Get, At and Next of a rising list. asks at Get, Next, Rank, At and Len answers true. asks at Rank and Len answers true. asks at At and Next answers true. rising lists are what stands in them under each key. what TreeAnew puts and deletes makes the one list out of the other one. -/
import Derived.Test.YtjabcdfbncglnaaLB12
import Derived.Test.YtjabcdfbncglnaaLB13
namespace Go.Proofs.Ytjabcdfbncglnaa
open Go.RowKit
open PTreeRanks (S59 k59 z59)
set_option linter.unusedVariables false
set_option linter.unusedSimpArgs false

def at3 : Option S59 → ByteArray × Int × Bool
  | none => (⟨#[]⟩, 0, false)
  | some x => (x.f0, x.f1, true)

theorem refAt (l : List S59) (i : Int) : PTreeRanks.keystoneref05_At.f l i = some (at3 (if i < 0 then none else l[i.toNat]?)) := by
  unfold PTreeRanks.keystoneref05_At.f
  by_cases h0 : i < 0
  · rw [if_pos h0, if_pos h0]; rfl
  · rw [if_neg h0, if_neg h0]
    obtain ⟨n, rfl⟩ := Int.eq_ofNat_of_zero_le (Int.not_lt.1 h0)
    by_cases h1 : n < l.length
    · rw [if_neg (by omega), if_pos (by omega), if_pos (by omega), rd_eq l n h1, Int.toNat_natCast, List.getElem?_eq_getElem h1]; rfl
    · rw [if_pos (by omega), Int.toNat_natCast, List.getElem?_eq_none (by omega)]; rfl

theorem refGet {l : List S59} (k : ByteArray) (hs : SortedK (keysOf l)) (hn : l.length < 5864062014800) : PTreeRanks.keystoneref05_Get.f (l.length + 1) l k = some (getV l k, has (keysOf l) k) := by
  unfold PTreeRanks.keystoneref05_Get.f
  rw [refRank k hs (by omega), refHas k hs (by omega)]
  have hl := @has_lt (keysOf l) k
  rw [keysOf_length] at hl
  simp only [Option.bind_some]
  unfold getV
  show _ = some ((if has (keysOf l) k = true then (l.getD (rank (keysOf l) k) z59).f1 else 0), _)
  by_cases h : has (keysOf l) k = true
  · have hl := hl h
    rw [if_pos h, if_pos h, if_pos (by omega), if_pos (by omega), rd_eq l _ hl, List.getD_eq_getElem?_getD, List.getElem?_eq_getElem hl, h]
    rfl
  · rw [if_neg h, if_neg h, Bool.eq_false_iff.2 h]

theorem refNext {l : List S59} (k : ByteArray) (beyond : Bool) (hs : SortedK (keysOf l)) (hn : l.length < 5864062014800) : PTreeRanks.keystoneref05_Next.f (l.length + 1) l k beyond = some (at3 l[rank (keysOf l) k + if beyond && has (keysOf l) k then 1 else 0]?) := by
  unfold PTreeRanks.keystoneref05_Next.f
  rw [refRank k hs (by omega), refHas k hs (by omega)]
  have hr := rank_le (keysOf l) k
  rw [keysOf_length] at hr
  simp only [Option.bind_some]
  have e0 : ¬ ((rank (keysOf l) k : Nat) : Int) < 0 := by omega
  have e1 : ¬ (((rank (keysOf l) k : Nat) : Int) + 1) < 0 := by omega
  have e2 : (((rank (keysOf l) k : Nat) : Int) + 1).toNat = rank (keysOf l) k + 1 := by omega
  cases beyond <;> cases has (keysOf l) k <;> simp [refAt, wrap_small _ (show (0 : Int) ≤ ((rank (keysOf l) k : Nat) : Int) + 1 by omega) (by omega), e0, e1, e2]
end Go.Proofs.Ytjabcdfbncglnaa
namespace Go.Proofs.Ytjabcdfbncglnaa
open Go.RowKit Go.Proofs.YtjabcdfbncglnaaW.PrintWords Go.Proofs.YtjabcdfbncglnaaW.PrintLast Go.Proofs.YtjabcdfbncglnaaW.PrintMore
open PTreeRanks (S59 k59 z59)
set_option linter.unusedVariables false
set_option linter.unusedSimpArgs false

set_option maxHeartbeats 8000000 in
set_option maxRecDepth 100000 in
theorem asks_get {order base bt s o cl : Nat} {l : List S59} {Al : Option Addr} {w : World} (hT : TL order l base bt w) (hl : l.length ≤ 1073741824) (x0 : w.cell? ⟨s, o, none⟩ = some (.pointer (some ⟨bt, 0, none⟩)))
    (x1 : w.cell? ⟨s, o + 1, none⟩ = some (.slice Al l.length cl)) (hCl : Kd.C k59 w Al l.length l) (hcl : l.length ≤ cl) (other beyond : Bool) (k k2 : ByteArray) (v i : Int) :
    Calls Try.prog 19 #[.pointer (some ⟨s, o, none⟩), .agg #[.int .i64 2, .bool other, .string k, .string k2, .int .i64 v, .int .i64 i, .bool beyond], .int .i64 (order : Nat)] w fun e w' => e = .returned (.bool true) ∧ Below w.heap.size w w' := by
  have hu46 := Try.underlying46
  have hu27 := Try.underlying27
  have hB1 := below_mk (Below.refl w.heap.size w) (.cells #[.int .i64 2, .bool other, .string k, .string k2, .int .i64 v, .int .i64 i, .bool beyond] 46)
  have hN := heap_alloc_new w (.cells #[.int .i64 2, .bool other, .string k, .string k2, .int .i64 v, .int .i64 i, .bool beyond] 46)
  go_enter Try.func19, Try.ntmps19
  go_wp2
  obtain ⟨q, hq⟩ : ∃ q, q = w.heap.size := ⟨_, rfl⟩
  have y0 := pw_cell_below hB1 x0
  have y1 := pw_cell_below hB1 x1
  have HC1 : Aside0 (∀ n, Calls Try.prog 14 #[.pointer (some ⟨bt, 0, none⟩), .string k] ((w.alloc (.cells #[.int .i64 2, .bool other, .string k, .string k2, .int .i64 v, .int .i64 i, .bool beyond] 46)).drewN n) fun e w' => e = .returned (.tuple #[.int .i64 (getV l k), .bool (has (keysOf l) k)]) ∧ Drawn0 ((w.alloc (.cells #[.int .i64 2, .bool other, .string k, .string k2, .int .i64 v, .int .i64 i, .bool beyond] 46)).drewN n) w') :=
    ⟨fun n => TL_get ((hT.below hB1).drewN n) k⟩
  have HC2 : Aside0 (∀ W, Below w.heap.size w W → Calls Try.prog 24 #[.slice Al l.length cl, .string k] W fun e w' => e = .returned (.tuple #[.int .i64 (getV l k), .bool (has (keysOf l) k)]) ∧ Drawn0 W w') :=
    ⟨fun W hW => PTreeRanks.keystoneref05_Get.calls (l.length + 1) Al cl l k _ _ W (Kd.C_below hCl hW) hcl (refGet k hT.sorted (by omega))⟩
  have HB1 := Aside0.mk hB1
  rw [← hq] at hN ⊢
  have HQ := Aside0.mk hq
  clear hq x0 x1 hB1 hT hCl
  generalize w.alloc (.cells #[.int .i64 2, .bool other, .string k, .string k2, .int .i64 v, .int .i64 i, .bool beyond] 46) = w1 at *
  have z2 : w1.cell? ⟨q, 2, none⟩ = some (.string k) := (blk_cell hN 2).trans rfl
  have z0 : w1.cell? ⟨q, 0, none⟩ = some (.int .i64 2) := (blk_cell hN 0).trans rfl
  clear hN
  go_quiet ((go_at_call 14; exact quiet_D (HC1.out _)))
  have HB2 := Aside0.mk (HB1.out.trans ((pw_below_drewN (Below.refl w1.heap.size w1) nq).mono HB1.out.size))
  have y1' : (w1.drewN nq).cell? ⟨s, o + 1, none⟩ = some (.slice Al l.length cl) := y1
  have z2' : (w1.drewN nq).cell? ⟨q, 2, none⟩ = some (.string k) := z2
  clear y0 y1 z0 z2 HC1 HB1
  generalize w1.drewN nq = w2 at *
  have HD2 : Aside0 (∀ n, Calls Try.prog 24 #[.slice Al l.length cl, .string k] (w2.drewN n) fun e w' => e = .returned (.tuple #[.int .i64 (getV l k), .bool (has (keysOf l) k)]) ∧ Drawn0 (w2.drewN n) w') :=
    ⟨fun n => HC2.out _ (HB2.out.trans ((pw_below_drewN (Below.refl _ _) n).mono HB2.out.size))⟩
  clear HC2
  go_wp2
  go_quiet ((go_at_call 24; exact quiet_D (HD2.out _)))
  have HB3 := Aside0.mk (HB2.out.trans ((pw_below_drewN (Below.refl w2.heap.size w2) nq).mono HB2.out.size))
  clear y1' z2' HD2 HB2
  go_wp2
  go_ret
  exact ⟨by simp, HB3.out⟩
end Go.Proofs.Ytjabcdfbncglnaa
namespace Go.Proofs.Ytjabcdfbncglnaa
open Go.RowKit Go.Proofs.YtjabcdfbncglnaaW.PrintWords Go.Proofs.YtjabcdfbncglnaaW.PrintLast Go.Proofs.YtjabcdfbncglnaaW.PrintMore
open PTreeRanks (S59 k59 z59)
set_option linter.unusedVariables false
set_option linter.unusedSimpArgs false

set_option maxHeartbeats 8000000 in
set_option maxRecDepth 100000 in
theorem asks_rank {order base bt s o cl : Nat} {l : List S59} {Al : Option Addr} {w : World} (hT : TL order l base bt w) (hl : l.length ≤ 1073741824) (x0 : w.cell? ⟨s, o, none⟩ = some (.pointer (some ⟨bt, 0, none⟩)))
    (x1 : w.cell? ⟨s, o + 1, none⟩ = some (.slice Al l.length cl)) (hCl : Kd.C k59 w Al l.length l) (hcl : l.length ≤ cl) (other beyond : Bool) (k k2 : ByteArray) (v i : Int) :
    Calls Try.prog 19 #[.pointer (some ⟨s, o, none⟩), .agg #[.int .i64 5, .bool other, .string k, .string k2, .int .i64 v, .int .i64 i, .bool beyond], .int .i64 (order : Nat)] w fun e w' => e = .returned (.bool true) ∧ Below w.heap.size w w' := by
  have hu46 := Try.underlying46
  have hu27 := Try.underlying27
  have hB1 := below_mk (Below.refl w.heap.size w) (.cells #[.int .i64 5, .bool other, .string k, .string k2, .int .i64 v, .int .i64 i, .bool beyond] 46)
  have hN := heap_alloc_new w (.cells #[.int .i64 5, .bool other, .string k, .string k2, .int .i64 v, .int .i64 i, .bool beyond] 46)
  go_enter Try.func19, Try.ntmps19
  go_wp2
  obtain ⟨q, hq⟩ : ∃ q, q = w.heap.size := ⟨_, rfl⟩
  have y0 := pw_cell_below hB1 x0
  have y1 := pw_cell_below hB1 x1
  have HC1 : Aside0 (∀ n, Calls Try.prog 15 #[.pointer (some ⟨bt, 0, none⟩), .string k] ((w.alloc (.cells #[.int .i64 5, .bool other, .string k, .string k2, .int .i64 v, .int .i64 i, .bool beyond] 46)).drewN n) fun e w' => e = .returned (.int .i64 (rank (keysOf l) k : Nat)) ∧ Drawn0 ((w.alloc (.cells #[.int .i64 5, .bool other, .string k, .string k2, .int .i64 v, .int .i64 i, .bool beyond] 46)).drewN n) w') :=
    ⟨fun n => TL_rank ((hT.below hB1).drewN n) (by omega) k⟩
  have HC2 : Aside0 (∀ n, Calls Try.prog 41 #[.slice Al l.length cl, .string k] ((w.alloc (.cells #[.int .i64 5, .bool other, .string k, .string k2, .int .i64 v, .int .i64 i, .bool beyond] 46)).drewN n) fun e w' => e = .returned (.int .i64 (rank (keysOf l) k : Nat)) ∧ Drawn0 ((w.alloc (.cells #[.int .i64 5, .bool other, .string k, .string k2, .int .i64 v, .int .i64 i, .bool beyond] 46)).drewN n) w') :=
    ⟨fun n => PTreeRanks.keystoneref05_Rank.calls (l.length + 1) Al cl l k _ _ (Kd.C_below hCl (hB1.trans ((pw_below_drewN (Below.refl _ _) n).mono hB1.size))) hcl (refRank k hT.sorted (by omega))⟩
  have HB1 := Aside0.mk hB1
  rw [← hq] at hN ⊢
  have HQ := Aside0.mk hq
  clear hq x0 x1 hB1 hT hCl
  generalize w.alloc (.cells #[.int .i64 5, .bool other, .string k, .string k2, .int .i64 v, .int .i64 i, .bool beyond] 46) = w1 at *
  have z2 : w1.cell? ⟨q, 2, none⟩ = some (.string k) := (blk_cell hN 2).trans rfl
  have z0 : w1.cell? ⟨q, 0, none⟩ = some (.int .i64 5) := (blk_cell hN 0).trans rfl
  clear hN
  generalize rank (keysOf l) k = r at *
  go_quiet (first | (go_at_call 15; exact quiet_D (HC1.out _)) | (go_at_call 41; exact quiet_D (HC2.out _)))
  have HB2 := Aside0.mk (HB1.out.trans ((pw_below_drewN (Below.refl w1.heap.size w1) nq).mono HB1.out.size))
  clear y0 y1 z0 z2 HC1 HC2 HB1
  go_wp2
  go_ret
  exact ⟨by simp, HB2.out⟩

set_option maxHeartbeats 8000000 in
set_option maxRecDepth 100000 in
theorem asks_len {order base bt s o cl : Nat} {l : List S59} {Al : Option Addr} {w : World} (hT : TL order l base bt w) (hl : l.length ≤ 1073741824) (x0 : w.cell? ⟨s, o, none⟩ = some (.pointer (some ⟨bt, 0, none⟩)))
    (x1 : w.cell? ⟨s, o + 1, none⟩ = some (.slice Al l.length cl)) (hCl : Kd.C k59 w Al l.length l) (hcl : l.length ≤ cl) (other beyond : Bool) (k k2 : ByteArray) (v i kd : Int) (h2 : kd ≠ 2) (h3 : kd ≠ 3) (h4 : kd ≠ 4) (h5 : kd ≠ 5) (h6 : kd ≠ 6) (h8 : kd ≠ 8) :
    Calls Try.prog 19 #[.pointer (some ⟨s, o, none⟩), .agg #[.int .i64 kd, .bool other, .string k, .string k2, .int .i64 v, .int .i64 i, .bool beyond], .int .i64 (order : Nat)] w fun e w' => e = .returned (.bool true) ∧ Below w.heap.size w w' := by
  have hu46 := Try.underlying46
  have hu27 := Try.underlying27
  have hB1 := below_mk (Below.refl w.heap.size w) (.cells #[.int .i64 kd, .bool other, .string k, .string k2, .int .i64 v, .int .i64 i, .bool beyond] 46)
  have hN := heap_alloc_new w (.cells #[.int .i64 kd, .bool other, .string k, .string k2, .int .i64 v, .int .i64 i, .bool beyond] 46)
  have d2 : decide (kd = 2) = false := decide_eq_false h2
  have e2 : (kd == 2) = false := by simpa using h2
  have d3 : decide (kd = 3) = false := decide_eq_false h3
  have e3 : (kd == 3) = false := by simpa using h3
  have d4 : decide (kd = 4) = false := decide_eq_false h4
  have e4 : (kd == 4) = false := by simpa using h4
  have d5 : decide (kd = 5) = false := decide_eq_false h5
  have e5 : (kd == 5) = false := by simpa using h5
  have d6 : decide (kd = 6) = false := decide_eq_false h6
  have e6 : (kd == 6) = false := by simpa using h6
  have d8 : decide (kd = 8) = false := decide_eq_false h8
  have e8 : (kd == 8) = false := by simpa using h8
  clear h2 h3 h4 h5 h6 h8
  go_enter Try.func19, Try.ntmps19
  go_wp2
  obtain ⟨q, hq⟩ : ∃ q, q = w.heap.size := ⟨_, rfl⟩
  have y0 := pw_cell_below hB1 x0
  have y1 := pw_cell_below hB1 x1
  have HC1 : Aside0 (∀ n, Calls Try.prog 12 #[.pointer (some ⟨bt, 0, none⟩)] ((w.alloc (.cells #[.int .i64 kd, .bool other, .string k, .string k2, .int .i64 v, .int .i64 i, .bool beyond] 46)).drewN n) fun e w' => e = .returned (.int .i64 (l.length : Nat)) ∧ Drawn0 ((w.alloc (.cells #[.int .i64 kd, .bool other, .string k, .string k2, .int .i64 v, .int .i64 i, .bool beyond] 46)).drewN n) w') :=
    ⟨fun n => TL_len ((hT.below hB1).drewN n)⟩
  have HB1 := Aside0.mk hB1
  rw [← hq] at hN ⊢
  have HQ := Aside0.mk hq
  clear hq x0 x1 hB1 hT hCl
  generalize w.alloc (.cells #[.int .i64 kd, .bool other, .string k, .string k2, .int .i64 v, .int .i64 i, .bool beyond] 46) = w1 at *
  have z2 : w1.cell? ⟨q, 2, none⟩ = some (.string k) := (blk_cell hN 2).trans rfl
  have z0 : w1.cell? ⟨q, 0, none⟩ = some (.int .i64 kd) := (blk_cell hN 0).trans rfl
  clear hN
  go_wp2
  go_quiet ((go_at_call 12; exact quiet_D (HC1.out _)))
  have HB2 := Aside0.mk (HB1.out.trans ((pw_below_drewN (Below.refl w1.heap.size w1) nq).mono HB1.out.size))
  clear y0 y1 z0 z2 HC1 HB1
  go_wp2
  go_ret
  exact ⟨by simp, HB2.out⟩
end Go.Proofs.Ytjabcdfbncglnaa
namespace Go.Proofs.Ytjabcdfbncglnaa
open Go.RowKit Go.Proofs.YtjabcdfbncglnaaW.PrintWords Go.Proofs.YtjabcdfbncglnaaW.PrintLast Go.Proofs.YtjabcdfbncglnaaW.PrintMore
open PTreeRanks (S59 k59 z59)
set_option linter.unusedVariables false
set_option linter.unusedSimpArgs false

theorem optV_at3 (x : Option S59) : optV x = .tuple #[.string (at3 x).1, .int .i64 (at3 x).2.1, .bool (at3 x).2.2] := by
  cases x <;> rfl

set_option maxHeartbeats 8000000 in
set_option maxRecDepth 100000 in
theorem asks_at {order base bt s o cl : Nat} {l : List S59} {Al : Option Addr} {w : World} (hT : TL order l base bt w) (hl : l.length ≤ 1073741824) (x0 : w.cell? ⟨s, o, none⟩ = some (.pointer (some ⟨bt, 0, none⟩)))
    (x1 : w.cell? ⟨s, o + 1, none⟩ = some (.slice Al l.length cl)) (hCl : Kd.C k59 w Al l.length l) (hcl : l.length ≤ cl) (other beyond : Bool) (k k2 : ByteArray) (v i : Int) :
    Calls Try.prog 19 #[.pointer (some ⟨s, o, none⟩), .agg #[.int .i64 6, .bool other, .string k, .string k2, .int .i64 v, .int .i64 i, .bool beyond], .int .i64 (order : Nat)] w fun e w' => e = .returned (.bool true) ∧ Below w.heap.size w w' := by
  have hu46 := Try.underlying46
  have hu27 := Try.underlying27
  have hB1 := below_mk (Below.refl w.heap.size w) (.cells #[.int .i64 6, .bool other, .string k, .string k2, .int .i64 v, .int .i64 i, .bool beyond] 46)
  have hN := heap_alloc_new w (.cells #[.int .i64 6, .bool other, .string k, .string k2, .int .i64 v, .int .i64 i, .bool beyond] 46)
  go_enter Try.func19, Try.ntmps19
  go_wp2
  obtain ⟨q, hq⟩ : ∃ q, q = w.heap.size := ⟨_, rfl⟩
  have y0 := pw_cell_below hB1 x0
  have y1 := pw_cell_below hB1 x1
  have HC1 : Aside0 (∀ n, Calls Try.prog 13 #[.pointer (some ⟨bt, 0, none⟩), .int .i64 i] ((w.alloc (.cells #[.int .i64 6, .bool other, .string k, .string k2, .int .i64 v, .int .i64 i, .bool beyond] 46)).drewN n) fun e w' => e = .returned (.tuple #[.string (at3 (if i < 0 then none else l[i.toNat]?)).1, .int .i64 (at3 (if i < 0 then none else l[i.toNat]?)).2.1, .bool (at3 (if i < 0 then none else l[i.toNat]?)).2.2]) ∧ Drawn0 ((w.alloc (.cells #[.int .i64 6, .bool other, .string k, .string k2, .int .i64 v, .int .i64 i, .bool beyond] 46)).drewN n) w') :=
    ⟨fun n => by rw [← optV_at3]; exact TL_at ((hT.below hB1).drewN n) (by omega) i⟩
  have HC2 : Aside0 (∀ W, Below w.heap.size w W → Calls Try.prog 42 #[.slice Al l.length cl, .int .i64 i] W fun e w' => e = .returned (.tuple #[.string (at3 (if i < 0 then none else l[i.toNat]?)).1, .int .i64 (at3 (if i < 0 then none else l[i.toNat]?)).2.1, .bool (at3 (if i < 0 then none else l[i.toNat]?)).2.2]) ∧ Drawn0 W w') :=
    ⟨fun W hW => PTreeRanks.keystoneref05_At.calls Al cl l i _ _ _ W (Kd.C_below hCl hW) hcl (refAt l i)⟩
  generalize at3 (if i < 0 then none else l[i.toNat]?) = r3 at *
  obtain ⟨ra, rb, rc⟩ := r3
  have HB1 := Aside0.mk hB1
  rw [← hq] at hN ⊢
  have HQ := Aside0.mk hq
  clear hq x0 x1 hB1 hT hCl
  generalize w.alloc (.cells #[.int .i64 6, .bool other, .string k, .string k2, .int .i64 v, .int .i64 i, .bool beyond] 46) = w1 at *
  have z5 : w1.cell? ⟨q, 5, none⟩ = some (.int .i64 i) := (blk_cell hN 5).trans rfl
  have z0 : w1.cell? ⟨q, 0, none⟩ = some (.int .i64 6) := (blk_cell hN 0).trans rfl
  clear hN
  go_quiet ((go_at_call 13; exact quiet_D (HC1.out _)))
  have HB2 := Aside0.mk (HB1.out.trans ((pw_below_drewN (Below.refl w1.heap.size w1) nq).mono HB1.out.size))
  have y1' : (w1.drewN nq).cell? ⟨s, o + 1, none⟩ = some (.slice Al l.length cl) := y1
  have z5' : (w1.drewN nq).cell? ⟨q, 5, none⟩ = some (.int .i64 i) := z5
  clear y0 y1 z0 z5 HC1 HB1
  generalize w1.drewN nq = w2 at *
  have HD2 : Aside0 (∀ n, Calls Try.prog 42 #[.slice Al l.length cl, .int .i64 i] (w2.drewN n) fun e w' => e = .returned (.tuple #[.string ra, .int .i64 rb, .bool rc]) ∧ Drawn0 (w2.drewN n) w') :=
    ⟨fun n => HC2.out _ (HB2.out.trans ((pw_below_drewN (Below.refl _ _) n).mono HB2.out.size))⟩
  clear HC2
  go_wp2
  go_quiet ((go_at_call 42; exact quiet_D (HD2.out _)))
  have HB3 := Aside0.mk (HB2.out.trans ((pw_below_drewN (Below.refl w2.heap.size w2) nq).mono HB2.out.size))
  clear y1' z5' HD2 HB2
  go_wp2
  go_ret
  exact ⟨by simp, HB3.out⟩

set_option maxHeartbeats 8000000 in
set_option maxRecDepth 100000 in
theorem asks_next {order base bt s o cl : Nat} {l : List S59} {Al : Option Addr} {w : World} (hT : TL order l base bt w) (hl : l.length ≤ 1073741824) (x0 : w.cell? ⟨s, o, none⟩ = some (.pointer (some ⟨bt, 0, none⟩)))
    (x1 : w.cell? ⟨s, o + 1, none⟩ = some (.slice Al l.length cl)) (hCl : Kd.C k59 w Al l.length l) (hcl : l.length ≤ cl) (other beyond : Bool) (k k2 : ByteArray) (v i : Int) :
    Calls Try.prog 19 #[.pointer (some ⟨s, o, none⟩), .agg #[.int .i64 3, .bool other, .string k, .string k2, .int .i64 v, .int .i64 i, .bool beyond], .int .i64 (order : Nat)] w fun e w' => e = .returned (.bool true) ∧ Below w.heap.size w w' := by
  have hu46 := Try.underlying46
  have hu27 := Try.underlying27
  have hB1 := below_mk (Below.refl w.heap.size w) (.cells #[.int .i64 3, .bool other, .string k, .string k2, .int .i64 v, .int .i64 i, .bool beyond] 46)
  have hN := heap_alloc_new w (.cells #[.int .i64 3, .bool other, .string k, .string k2, .int .i64 v, .int .i64 i, .bool beyond] 46)
  go_enter Try.func19, Try.ntmps19
  go_wp2
  obtain ⟨q, hq⟩ : ∃ q, q = w.heap.size := ⟨_, rfl⟩
  have y0 := pw_cell_below hB1 x0
  have y1 := pw_cell_below hB1 x1
  have HC1 : Aside0 (∀ n, Calls Try.prog 16 #[.pointer (some ⟨bt, 0, none⟩), .string k, .bool beyond] ((w.alloc (.cells #[.int .i64 3, .bool other, .string k, .string k2, .int .i64 v, .int .i64 i, .bool beyond] 46)).drewN n) fun e w' => e = .returned (.tuple #[.string (at3 (l[rank (keysOf l) k + if beyond && has (keysOf l) k then 1 else 0]?)).1, .int .i64 (at3 (l[rank (keysOf l) k + if beyond && has (keysOf l) k then 1 else 0]?)).2.1, .bool (at3 (l[rank (keysOf l) k + if beyond && has (keysOf l) k then 1 else 0]?)).2.2]) ∧ Drawn0 ((w.alloc (.cells #[.int .i64 3, .bool other, .string k, .string k2, .int .i64 v, .int .i64 i, .bool beyond] 46)).drewN n) w') :=
    ⟨fun n => by rw [← optV_at3]; exact TL_next ((hT.below hB1).drewN n) (by omega) k beyond⟩
  have HC2 : Aside0 (∀ W, Below w.heap.size w W → Calls Try.prog 39 #[.slice Al l.length cl, .string k, .bool beyond] W fun e w' => e = .returned (.tuple #[.string (at3 (l[rank (keysOf l) k + if beyond && has (keysOf l) k then 1 else 0]?)).1, .int .i64 (at3 (l[rank (keysOf l) k + if beyond && has (keysOf l) k then 1 else 0]?)).2.1, .bool (at3 (l[rank (keysOf l) k + if beyond && has (keysOf l) k then 1 else 0]?)).2.2]) ∧ Drawn0 W w') :=
    ⟨fun W hW => PTreeRanks.keystoneref05_Next.calls (l.length + 1) Al cl l k beyond _ _ _ W (Kd.C_below hCl hW) hcl (refNext k beyond hT.sorted (by omega))⟩
  generalize at3 (l[rank (keysOf l) k + if beyond && has (keysOf l) k then 1 else 0]?) = r3 at *
  obtain ⟨ra, rb, rc⟩ := r3
  have HB1 := Aside0.mk hB1
  rw [← hq] at hN ⊢
  have HQ := Aside0.mk hq
  clear hq x0 x1 hB1 hT hCl
  generalize w.alloc (.cells #[.int .i64 3, .bool other, .string k, .string k2, .int .i64 v, .int .i64 i, .bool beyond] 46) = w1 at *
  have z2 : w1.cell? ⟨q, 2, none⟩ = some (.string k) := (blk_cell hN 2).trans rfl
  have z6 : w1.cell? ⟨q, 6, none⟩ = some (.bool beyond) := (blk_cell hN 6).trans rfl
  have z0 : w1.cell? ⟨q, 0, none⟩ = some (.int .i64 3) := (blk_cell hN 0).trans rfl
  clear hN
  go_quiet ((go_at_call 16; exact quiet_D (HC1.out _)))
  have HB2 := Aside0.mk (HB1.out.trans ((pw_below_drewN (Below.refl w1.heap.size w1) nq).mono HB1.out.size))
  have y1' : (w1.drewN nq).cell? ⟨s, o + 1, none⟩ = some (.slice Al l.length cl) := y1
  have z2' : (w1.drewN nq).cell? ⟨q, 2, none⟩ = some (.string k) := z2
  have z6' : (w1.drewN nq).cell? ⟨q, 6, none⟩ = some (.bool beyond) := z6
  clear y0 y1 z0 z2 z6 HC1 HB1
  generalize w1.drewN nq = w2 at *
  have HD2 : Aside0 (∀ n, Calls Try.prog 39 #[.slice Al l.length cl, .string k, .bool beyond] (w2.drewN n) fun e w' => e = .returned (.tuple #[.string ra, .int .i64 rb, .bool rc]) ∧ Drawn0 (w2.drewN n) w') :=
    ⟨fun n => HC2.out _ (HB2.out.trans ((pw_below_drewN (Below.refl _ _) n).mono HB2.out.size))⟩
  clear HC2
  go_wp2
  go_quiet ((go_at_call 39; exact quiet_D (HD2.out _)))
  have HB3 := Aside0.mk (HB2.out.trans ((pw_below_drewN (Below.refl w2.heap.size w2) nq).mono HB2.out.size))
  clear y1' z2' z6' HD2 HB2
  go_wp2
  go_ret
  exact ⟨by simp, HB3.out⟩
end Go.Proofs.Ytjabcdfbncglnaa
namespace Go.Proofs.Ytjabcdfbncglnaa
open Go.RowKit
open PTreeRanks (S59 k59 z59)
set_option linter.unusedVariables false
set_option linter.unusedSimpArgs false

theorem key_at {l : List S59} (hs : SortedK (keysOf l)) {i j : Nat} (hi : i < l.length) (hj : j < l.length) (e : l[i].f0 = l[j].f0) : i = j := by
  have h1 := (at_rank hs i hi).1
  have h2 := (at_rank hs j hj).1
  rw [e] at h1
  omega
theorem key_inj {l : List S59} (hs : SortedK (keysOf l)) {x y : S59} (hx : x ∈ l) (hy : y ∈ l) (e : x.f0 = y.f0) : x = y := by
  obtain ⟨i, hi, rfl⟩ := List.getElem_of_mem hx
  obtain ⟨j, hj, rfl⟩ := List.getElem_of_mem hy
  have := key_at hs hi hj e
  subst this
  rfl
theorem has_at {l : List S59} {k : ByteArray} (h : has (keysOf l) k = true) : ∃ hi : rank (keysOf l) k < l.length, l[rank (keysOf l) k].f0 = k := by
  have hl := has_lt h
  rw [keysOf_length] at hl
  refine ⟨hl, ?_⟩
  unfold has at h
  have h := of_decide_eq_true h
  rw [show (keysOf l)[rank (keysOf l) k]? = (l[rank (keysOf l) k]?).map S59.f0 from List.getElem?_map, List.getElem?_eq_getElem hl] at h
  exact Option.some.inj h
theorem has_mem {l : List S59} (hs : SortedK (keysOf l)) {k : ByteArray} : has (keysOf l) k = true ↔ ∃ y ∈ l, y.f0 = k := by
  rw [has_iff hs]
  exact List.mem_map

theorem mem_insL {l : List S59} (hs : SortedK (keysOf l)) (k : ByteArray) (x : Int) (y : S59) : y ∈ insL l k x ↔ y = ⟨k, x⟩ ∨ (y ∈ l ∧ y.f0 ≠ k) := by
  unfold insL
  by_cases h : has (keysOf l) k = true
  · rw [if_pos h]
    obtain ⟨hi, hk⟩ := has_at h
    generalize rank (keysOf l) k = i at *
    have es : l.take i ++ (⟨k, x⟩ : S59) :: l.drop (i + 1) = l.set i ⟨k, x⟩ := by rw [List.set_eq_take_append_cons_drop, if_pos hi]
    rw [es]
    constructor
    · intro hy
      obtain ⟨j, hj, e⟩ := List.getElem_of_mem hy
      rw [List.length_set] at hj
      rw [List.getElem_set] at e
      by_cases hij : i = j
      · rw [if_pos hij] at e; exact .inl e.symm
      · rw [if_neg hij] at e
        refine .inr ⟨e ▸ List.getElem_mem hj, fun e2 => hij ?_⟩
        exact key_at hs hi hj (by rw [hk, ← e2, ← e])
    · rintro (rfl | ⟨hy, hne⟩)
      · exact List.mem_iff_getElem.2 ⟨i, by rw [List.length_set]; exact hi, by rw [List.getElem_set_self]⟩
      · obtain ⟨j, hj, rfl⟩ := List.getElem_of_mem hy
        have hij : i ≠ j := fun e => hne (by subst e; exact hk)
        exact List.mem_iff_getElem.2 ⟨j, by rw [List.length_set]; exact hj, by rw [List.getElem_set_ne hij]⟩
  · rw [if_neg h]
    have hno : ∀ y ∈ l, y.f0 ≠ k := fun y hy e => h ((has_mem hs).2 ⟨y, hy, e⟩)
    generalize rank (keysOf l) k = i at *
    rw [Nat.add_zero]
    have e : (y ∈ l.take i ++ ⟨k, x⟩ :: l.drop i) ↔ y = ⟨k, x⟩ ∨ y ∈ l := by
      conv => rhs; rw [← List.take_append_drop i l]
      simp only [List.mem_append, List.mem_cons]
      constructor
      · rintro (h | h | h)
        · exact .inr (.inl h)
        · exact .inl h
        · exact .inr (.inr h)
      · rintro (h | h | h)
        · exact .inr (.inl h)
        · exact .inl h
        · exact .inr (.inr h)
    rw [e]
    constructor
    · rintro (h | h)
      · exact .inl h
      · exact .inr ⟨h, hno y h⟩
    · rintro (h | h)
      · exact .inl h
      · exact .inr h.1

theorem mem_delL {l : List S59} (hs : SortedK (keysOf l)) (k : ByteArray) (y : S59) : y ∈ delL l k ↔ y ∈ l ∧ y.f0 ≠ k := by
  unfold delL
  by_cases h : has (keysOf l) k = true
  · rw [if_pos h]
    obtain ⟨hi, hk⟩ := has_at h
    generalize rank (keysOf l) k = i at *
    rw [List.mem_eraseIdx_iff_getElem]
    constructor
    · rintro ⟨j, hj, hne, rfl⟩
      exact ⟨List.getElem_mem hj, fun e => hne (key_at hs hj hi (by rw [e, hk]))⟩
    · rintro ⟨hy, hne⟩
      obtain ⟨j, hj, rfl⟩ := List.getElem_of_mem hy
      exact ⟨j, hj, fun e => hne (by subst e; exact hk), rfl⟩
  · rw [if_neg h]
    exact ⟨fun hy => ⟨hy, fun e => h ((has_mem hs).2 ⟨y, hy, e⟩)⟩, fun h => h.1⟩

theorem sorted_head {a : S59} {l : List S59} (hs : SortedK (keysOf (a :: l))) : (∀ x ∈ l, blt a.f0 x.f0 = true) ∧ SortedK (keysOf l) := by
  have h := List.pairwise_cons.1 (show ((a.f0 :: l.map S59.f0)).Pairwise (fun a b => blt a b = true) from hs)
  exact ⟨fun x hx => h.1 _ (List.mem_map.2 ⟨x, hx, rfl⟩), h.2⟩
/-- Rising lists of the same elements are the same. -/
theorem sorted_ext : ∀ {l1 l2 : List S59}, SortedK (keysOf l1) → SortedK (keysOf l2) → (∀ y, y ∈ l1 ↔ y ∈ l2) → l1 = l2
  | [], [], _, _, _ => rfl
  | [], b :: l2, _, _, h => absurd ((h b).2 (List.mem_cons_self)) (by simp)
  | a :: l1, [], _, _, h => absurd ((h a).1 (List.mem_cons_self)) (by simp)
  | a :: l1, b :: l2, h1, h2, h => by
    obtain ⟨p1, q1⟩ := sorted_head h1
    obtain ⟨p2, q2⟩ := sorted_head h2
    have hab : a = b := by
      rcases List.mem_cons.1 ((h a).1 List.mem_cons_self) with e | ha
      · exact e
      · rcases List.mem_cons.1 ((h b).2 List.mem_cons_self) with e | hb
        · exact e.symm
        · have x1 := p2 a ha
          rw [blt_asymm (p1 b hb)] at x1
          cases x1
    subst hab
    rw [sorted_ext q1 q2 (fun y => ?_)]
    constructor
    · intro hy
      rcases List.mem_cons.1 ((h y).1 (List.mem_cons_of_mem _ hy)) with e | hy2
      · subst e
        have := p1 y hy
        rw [blt_irrefl] at this
        cases this
      · exact hy2
    · intro hy
      rcases List.mem_cons.1 ((h y).2 (List.mem_cons_of_mem _ hy)) with e | hy2
      · subst e
        have := p2 y hy
        rw [blt_irrefl] at this
        cases this
      · exact hy2
end Go.Proofs.Ytjabcdfbncglnaa
namespace Go.Proofs.Ytjabcdfbncglnaa
open Go.RowKit
open PTreeRanks (S59 k59 z59)
set_option linter.unusedVariables false
set_option linter.unusedSimpArgs false

def backL (a : List S59) (ks : List ByteArray) (b : List S59) : List S59 := ks.foldr (fun k b => insL b k (getV a k)) b
def goneL (a : List S59) (gs : List ByteArray) (b : List S59) : List S59 := gs.foldl (fun b k => if has (keysOf a) k then b else delL b k) b

theorem getV_mem {l : List S59} (hs : SortedK (keysOf l)) {y : S59} (hy : y ∈ l) : getV l y.f0 = y.f1 := by
  obtain ⟨i, hi, rfl⟩ := List.getElem_of_mem hy
  exact (at_rank hs i hi).2.2

theorem backL_sorted (a : List S59) : ∀ (ks : List ByteArray) {b : List S59}, SortedK (keysOf b) → SortedK (keysOf (backL a ks b))
  | [], b, h => h
  | k :: ks, b, h => insL_sorted (backL_sorted a ks h) k _
theorem goneL_sorted (a : List S59) : ∀ (gs : List ByteArray) {b : List S59}, SortedK (keysOf b) → SortedK (keysOf (goneL a gs b))
  | [], b, h => h
  | k :: gs, b, h => by
    show SortedK (keysOf (goneL a gs (if has (keysOf a) k then b else delL b k)))
    refine goneL_sorted a gs ?_
    split
    · exact h
    · exact delL_sorted h k

theorem mem_backL (a : List S59) (y : S59) : ∀ (ks : List ByteArray) {b : List S59}, SortedK (keysOf b) → (y ∈ backL a ks b ↔ (y.f0 ∈ ks ∧ y.f1 = getV a y.f0) ∨ (y.f0 ∉ ks ∧ y ∈ b))
  | [], b, h => by simp [backL]
  | k :: ks, b, h => by
    show y ∈ insL (backL a ks b) k (getV a k) ↔ _
    rw [mem_insL (backL_sorted a ks h), mem_backL a y ks h]
    by_cases hk : y.f0 = k
    · constructor
      · rintro (e | e)
        · subst e; exact .inl ⟨List.mem_cons_self, rfl⟩
        · exact absurd hk e.2
      · rintro (e | e)
        · left
          obtain ⟨y0, y1⟩ := y
          have hk : y0 = k := hk
          have e2 : y1 = getV a y0 := e.2
          rw [e2, hk]
        · exact absurd (hk ▸ List.mem_cons_self) e.1
    · have h1 : y ≠ ⟨k, getV a k⟩ := fun e => hk (by rw [e])
      simp only [h1, false_or, List.mem_cons, hk, and_true, not_false_eq_true, ne_eq]
theorem mem_goneL (a : List S59) (y : S59) : ∀ (gs : List ByteArray) {b : List S59}, SortedK (keysOf b) → (y ∈ goneL a gs b ↔ y ∈ b ∧ (y.f0 ∈ gs → has (keysOf a) y.f0 = true))
  | [], b, h => by simp [goneL]
  | k :: gs, b, h => by
    show y ∈ goneL a gs (if has (keysOf a) k then b else delL b k) ↔ _
    by_cases hk : has (keysOf a) k = true
    · rw [if_pos hk, mem_goneL a y gs h]
      refine and_congr_right fun _ => ⟨fun h1 h2 => ?_, fun h1 h2 => h1 (List.mem_cons_of_mem _ h2)⟩
      rcases List.mem_cons.1 h2 with e | h2
      · rw [e]; exact hk
      · exact h1 h2
    · rw [if_neg hk, mem_goneL a y gs (delL_sorted h k), mem_delL h]
      constructor
      · rintro ⟨⟨h1, h2⟩, h3⟩
        refine ⟨h1, fun h4 => ?_⟩
        rcases List.mem_cons.1 h4 with e | h4
        · exact absurd e h2
        · exact h3 h4
      · rintro ⟨h1, h2⟩
        exact ⟨⟨h1, fun e => hk (by rw [← e]; exact h2 (e ▸ List.mem_cons_self))⟩, fun h4 => h2 (List.mem_cons_of_mem _ h4)⟩

theorem fillL_sorted : ∀ (ks : List ByteArray) (i : Nat) {l : List S59}, SortedK (keysOf l) → SortedK (keysOf (fillL ks i l))
  | [], i, l, h => h
  | k :: ks, i, l, h => fillL_sorted ks (i + 1) (insL_sorted h k _)
theorem fillL_keys (k : ByteArray) : ∀ (ks : List ByteArray) (i : Nat) {l : List S59}, SortedK (keysOf l) → ((∃ y ∈ fillL ks i l, y.f0 = k) ↔ k ∈ ks ∨ ∃ y ∈ l, y.f0 = k)
  | [], i, l, h => by simp [fillL]
  | k0 :: ks, i, l, h => by
    show (∃ y ∈ fillL ks (i + 1) (insL l k0 i), y.f0 = k) ↔ _
    rw [fillL_keys k ks (i + 1) (insL_sorted h k0 _)]
    constructor
    · rintro (h1 | ⟨y, hy, e⟩)
      · exact .inl (List.mem_cons_of_mem _ h1)
      · rcases (mem_insL h k0 _ y).1 hy with e2 | ⟨h2, _⟩
        · subst e2; exact .inl (e ▸ List.mem_cons_self)
        · exact .inr ⟨y, h2, e⟩
    · rintro (h1 | ⟨y, hy, e⟩)
      · rcases List.mem_cons.1 h1 with e | h1
        · exact .inr ⟨⟨k0, i⟩, (mem_insL h k0 _ _).2 (.inl rfl), e.symm⟩
        · exact .inl h1
      · by_cases hk : k = k0
        · exact .inr ⟨⟨k0, i⟩, (mem_insL h k0 _ _).2 (.inl rfl), hk.symm⟩
        · exact .inr ⟨y, (mem_insL h k0 _ _).2 (.inr ⟨hy, fun e2 => hk (by rw [← e, e2])⟩), e⟩

theorem sorted_nil : SortedK (keysOf []) := List.Pairwise.nil
/-- All of TreeAnew's law on the lists. -/
theorem anew_eq (ks gs : List ByteArray) : goneL (fillL ks 0 []) gs (backL (fillL ks 0 []) ks (fillL gs 0 [])) = fillL ks 0 [] := by
  have hA := fillL_sorted ks 0 sorted_nil
  have hB := fillL_sorted gs 0 sorted_nil
  have hkA : ∀ k, (∃ y ∈ fillL ks 0 [], y.f0 = k) ↔ k ∈ ks := fun k => by rw [fillL_keys k ks 0 sorted_nil]; simp
  have hkB : ∀ k, (∃ y ∈ fillL gs 0 [], y.f0 = k) ↔ k ∈ gs := fun k => by rw [fillL_keys k gs 0 sorted_nil]; simp
  generalize fillL ks 0 [] = a at *
  generalize fillL gs 0 [] = b at *
  have hb := backL_sorted a ks hB
  refine sorted_ext (goneL_sorted a gs hb) hA (fun y => ?_)
  rw [mem_goneL a y gs hb, mem_backL a y ks hB, has_mem hA, hkA]
  constructor
  · rintro ⟨h1 | h1, h2⟩
    · obtain ⟨z, hz, e⟩ := (hkA y.f0).2 h1.1
      have h3 := getV_mem hA hz
      have : y = z := by
        obtain ⟨y0, y1⟩ := y
        obtain ⟨z0, z1⟩ := z
        have e : z0 = y0 := e
        subst e
        have h4 : y1 = getV a z0 := h1.2
        have h3 : getV a z0 = z1 := h3
        rw [h4, h3]
      exact this ▸ hz
    · exact absurd (h2 ((hkB y.f0).1 ⟨y, h1.2, rfl⟩)) h1.1
  · intro hy
    have hk := (hkA y.f0).1 ⟨y, hy, rfl⟩
    exact ⟨.inl ⟨hk, (getV_mem hA hy).symm⟩, fun _ => hk⟩
end Go.Proofs.Ytjabcdfbncglnaa
