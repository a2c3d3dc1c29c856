/- WHAT IS PROVED: asks at Scan answers true. -/
import Derived.Test.YtjabcdfbncglnaaLGs
import Derived.Test.YtjabcdfbncglnaaLB16
import Derived.Test.YtjabcdfbncglnaaLB15
namespace Go.Proofs.Ytjabcdfbncglnaa
open Go.RowKit Go.Proofs.YtjabcdfbncglnaaW.PrintWords Go.Proofs.YtjabcdfbncglnaaW.PrintLast Go.Proofs.YtjabcdfbncglnaaW.PrintMore
open PTreeRanks (S59 k59 z59)
set_option linter.unusedVariables false
set_option linter.unusedSimpArgs false

set_option maxHeartbeats 8000000 in
set_option maxRecDepth 100000 in
theorem asks_scan {order bt s o cl : Nat} {l : List S59} {ok : Nat → Prop} {Al : Option Addr} {w : World} (hT : TG order l ok bt w) (hl : l.length ≤ 1073741824) (x0 : w.cell? ⟨s, o, none⟩ = some (.pointer (some ⟨bt, 0, none⟩)))
    (x1 : w.cell? ⟨s, o + 1, none⟩ = some (.slice Al l.length cl)) (hCl : Kd.C k59 w Al l.length l) (hcl : l.length ≤ cl) (other beyond : Bool) (k k2 : ByteArray) (v i : Int) :
    Calls Try.prog 19 #[.pointer (some ⟨s, o, none⟩), .agg #[.int .i64 4, .bool other, .string k, .string k2, .int .i64 v, .int .i64 i, .bool beyond], .int .i64 (order : Nat)] w fun e w' => e = .returned (.bool true) ∧ Below w.heap.size w w' := by
  have hu46 := Try.underlying46
  have hu27 := Try.underlying27
  have hB1 := below_mk (Below.refl w.heap.size w) (.cells #[.int .i64 4, .bool other, .string k, .string k2, .int .i64 v, .int .i64 i, .bool beyond] 46)
  have hN := heap_alloc_new w (.cells #[.int .i64 4, .bool other, .string k, .string k2, .int .i64 v, .int .i64 i, .bool beyond] 46)
  go_enter Try.func19, Try.ntmps19
  go_wp2
  obtain ⟨q, hq⟩ : ∃ q, q = w.heap.size := ⟨_, rfl⟩
  have y0 := pw_cell_below hB1 x0
  have y1 := pw_cell_below hB1 x1
  have HG := Aside0.mk (goes_calls (hT.below (hB1.trans ((below_drew (Below.refl _ _)).mono hB1.size))) hl (Kd.C_below hCl (hB1.trans ((below_drew (Below.refl _ _)).mono hB1.size))) hcl k k2 i)
  have HB1 := Aside0.mk (hB1.trans ((below_drew (Below.refl _ _)).mono hB1.size))
  rw [← hq] at hN ⊢
  have HQ := Aside0.mk hq
  clear hq x0 x1 hB1 hT hCl
  generalize w.alloc (.cells #[.int .i64 4, .bool other, .string k, .string k2, .int .i64 v, .int .i64 i, .bool beyond] 46) = w1 at *
  have z0 : w1.cell? ⟨q, 0, none⟩ = some (.int .i64 4) := (blk_cell hN 0).trans rfl
  have z2 : w1.cell? ⟨q, 2, none⟩ = some (.string k) := (blk_cell hN 2).trans rfl
  have z3 : w1.cell? ⟨q, 3, none⟩ = some (.string k2) := (blk_cell hN 3).trans rfl
  have z5 : w1.cell? ⟨q, 5, none⟩ = some (.int .i64 i) := (blk_cell hN 5).trans rfl
  clear hN
  go_still_tail 14, (by kernel_rfl)
  change wpList _ _ _ _ _ w1.drew
  clear y0 y1 z0 z2 z3 z5
  generalize w1.drew = w2 at *
  go_wp2_with fail
  refine HG.out.mono ?_
  rintro e w3 ⟨rfl, hb3⟩
  have HB3 := Aside0.mk (HB1.out.trans (hb3.mono HB1.out.size))
  clear hb3 HG HB1
  go_wp2
  go_ret
  exact ⟨rfl, HB3.out⟩
end Go.Proofs.Ytjabcdfbncglnaa
