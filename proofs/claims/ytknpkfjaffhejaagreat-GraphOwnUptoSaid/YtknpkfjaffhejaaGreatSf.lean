/- WHAT IS PROVED: Safe tells whether there is no danger. -/
import Derived.Test.YtknpkfjaffhejaaGreatDc
namespace Go.Proofs.YtknpkfjaffhejaaGreat
open Go.RowKit Go.Shelf Go.Proofs.YtknpkfjaffhejaaGreatW.PrintWords Go.Proofs.YtknpkfjaffhejaaGreatW.PrintLast Go.Proofs.YtknpkfjaffhejaaGreatW.PrintMore
attribute [local go_sem] Oper.semAt_some
set_option linter.unusedVariables false
set_option linter.unusedSimpArgs false

theorem DgAt.form {n0 : Nat} {V : List Edge} {f : Value} {W : World} (h : DgAt n0 V f W) : ∃ b1 b3, f = .func (.func 30) #[] #[.pointer (some ⟨b1, 0, none⟩), .pointer (some ⟨b3, 0, none⟩)] := by
  obtain ⟨b1, b3, _, _, _, rfl, _⟩ := h
  exact ⟨b1, b3, rfl⟩
theorem vulE_ok {l : List Edge} (h : ∀ e ∈ l, okE e) : ∀ e ∈ vulE l, okE e := fun e he => h e (mem_vulE he).1
theorem kpE_b {n0 : Nat} {w : World} (W : World) (l : Nat) (o o' : Obj) (hl : w.heap.size ≤ l) (h : W.heap[l]? = some o) (hc : o.isCells = false) (_ : o.isWalk = false) : KpE n0 w.heap.size W (W.putObj l o') :=
  ⟨fun k _ hk => World.putObj_heap_other (by omega), fun k cs fr e => World.putObj_heap_other (fun e2 => by subst e2; rw [h] at e; injection e with e; subst e; cases hc)⟩

end Go.Proofs.YtknpkfjaffhejaaGreat
