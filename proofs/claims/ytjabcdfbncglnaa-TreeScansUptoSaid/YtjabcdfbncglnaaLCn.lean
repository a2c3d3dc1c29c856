/- WHAT IS PROVED: Clone makes a tree that shares its nodes with the old one. -/
import Derived.Test.YtjabcdfbncglnaaLB12
namespace Go.Proofs.Ytjabcdfbncglnaa
open Go.RowKit Go.Proofs.YtjabcdfbncglnaaW.PrintWords Go.Proofs.YtjabcdfbncglnaaW.PrintLast Go.Proofs.YtjabcdfbncglnaaW.PrintMore
open PTreeRanks (S59 k59 z59)
set_option linter.unusedVariables false
set_option linter.unusedSimpArgs false

theorem TG.oneCell {order bt : Nat} {l : List S59} {ok : Nat → Prop} {w : World} (h : TG order l ok bt w) : ∃ ty a, w.heap[bt]? = some (.cells #[.int .i64 order, .iface ty (.pointer (some a))] 71 (0, 0)) ∧ Calls Try.prog 32 #[.pointer (some ⟨bt, 0, none⟩)] w fun e w' => e = .returned (.bool false) ∧ w = w' := by
  obtain ⟨h1, h2, t, e, h3, h4, v, h5, h6⟩ := h
  have hK := (NK t.1).K_of_M h6
  obtain ⟨ty, a, rfl⟩ := NK_form hK
  exact ⟨ty, _, h5, none_some bt w hK ((blk_cell h5 1).trans rfl)⟩

theorem TG.clone {order bt : Nat} {l : List S59} {ok : Nat → Prop} {w : World} (h : TG order l ok bt w) (w1 : World) (hb : Below w.heap.size w w1) (ty : TypeId) (a : Addr) (hh : w.heap[bt]? = some (.cells #[.int .i64 order, .iface ty (.pointer (some a))] 71 (0, 0))) :
    TG order l ok w1.heap.size (w1.alloc (.cells #[.int .i64 order, .iface ty (.pointer (some a))] 71)) := by
  obtain ⟨h1, h2, t, e, h3, h4, v, h5, h6⟩ := h
  rw [hh] at h5
  injection h5 with h5
  injection h5 with h5
  obtain rfl : Value.iface ty (.pointer (some a)) = v := by
    have := congrArg (fun c : Array Value => c[1]?) h5
    simpa using this
  refine ⟨h1, h2, t, e, h3, h4, _, heap_alloc_new _ _, Kd.M_step h6 (fun k _ hlt => ((Below.heap_alloc _ _ _ (Nat.lt_of_lt_of_le hlt hb.size)).trans (hb.block k hlt)))⟩

set_option maxRecDepth 100000 in
set_option maxHeartbeats 4000000 in
theorem clone_calls {order bt : Nat} {l : List S59} {ok : Nat → Prop} {w : World} (h : TG order l ok bt w) : Calls Try.prog 29 #[.pointer (some ⟨bt, 0, none⟩)] w fun e w' =>
    e = .returned (.pointer (some ⟨w.heap.size, 0, none⟩)) ∧ Below w.heap.size w w' ∧ TG order l (fun k => ok k ∧ k < w.heap.size) w.heap.size w' := by
  replace h := h.imp (ok' := fun k => ok k ∧ k < w.heap.size) (fun k hk hlt => ⟨hk, hlt⟩)
  obtain ⟨ty, a, hh, hno⟩ := h.oneCell
  have HT := Aside0.mk (h.clone w (Below.refl _ _) ty a hh)
  have HNO := Aside0.mk hno
  have hu71 := Try.underlying71
  have y0 : w.cell? ⟨bt, 0, none⟩ = some (.int .i64 order) := (blk_cell hh 0).trans rfl
  have y1 : w.cell? ⟨bt, 1, none⟩ = some (.iface ty (.pointer (some a))) := (blk_cell hh 1).trans rfl
  have hB := Aside0.mk (below_mk (Below.refl w.heap.size w) (.cells #[.int .i64 order, .iface ty (.pointer (some a))] 71))
  clear h hno hh
  go_enter Try.func29, Try.ntmps29
  go_wp2_with fail
  refine HNO.out.mono ?_
  rintro e w' ⟨rfl, rfl⟩
  go_wp2
  go_ret
  exact ⟨rfl, hB.out, HT.out⟩
end Go.Proofs.Ytjabcdfbncglnaa
