/- WHAT IS PROVED: small facts on worlds. -/
import Derived.Test.YtknpkfjaffhejaaGreatPGraphTracksx0
import Derived.Laws.CopyOwn
import Derived.Deep.RegionLaw
import Derived.Deep.RegionWith
import Derived.Deep.RegionHeld3
import Derived.Lib.Overlaps
import Derived.Lib.AppendZerosOnto
import Derived.Lib.SliceRun
import Derived.Lib.Walk
import Derived.Lib.AppendZeros
import Derived.Lib.Hide
import Derived.Laws.Externs
import Derived.Laws.MakeOwn
import Derived.StillTailTactics
namespace Go.Proofs.YtknpkfjaffhejaaGreat
open Go.RowKit Go.Proofs.YtknpkfjaffhejaaGreatW.PrintWords Go.Proofs.YtknpkfjaffhejaaGreatW.PrintLast Go.Proofs.YtknpkfjaffhejaaGreatW.PrintMore
set_option linter.unusedVariables false
set_option linter.unusedSimpArgs false
theorem grownBy_trans {a b c : World} {u : Option Nat} (h : a.grownBy b u) (k : b.grownBy c u) : a.grownBy c u :=
  ⟨k.os.trans h.os, k.tape.trans h.tape, k.output.trans h.output, Nat.le_trans h.size k.size, fun i hi hne => (k.block i (Nat.lt_of_lt_of_le hi h.size) hne).trans (h.block i hi hne)⟩
theorem grownBy_refl (a : World) (u : Option Nat) : a.grownBy a u := ⟨rfl, rfl, rfl, Nat.le_refl _, fun _ _ _ => rfl⟩
theorem grownBy_drew {a b : World} {u : Option Nat} (h : a.grownBy b u) : a.grownBy b.drew u := ⟨h.os, h.tape, h.output, h.size, h.block⟩
theorem grownBy_of_drew {a b : World} {u : Option Nat} (h : a.drew.grownBy b u) : a.grownBy b u := ⟨h.os, h.tape, h.output, h.size, h.block⟩
theorem grownBy_none {a b : World} (h : a.grownBy b none) (u : Option Nat) : a.grownBy b u := ⟨h.os, h.tape, h.output, h.size, fun i hi _ => h.block i hi (by simp)⟩
theorem grownBy_below {a b : World} {B : Nat} {u : Option Nat} (h : a.grownBy b u) (hB : B ≤ a.heap.size) (hu : ∀ k, u = some k → B ≤ k) : Below B a b :=
  ⟨h.os, h.tape, h.output, h.size, fun i hi => h.block i (by omega) (fun e => by have := hu i e.symm; omega)⟩
theorem below_go {W0 w1 w2 : World} (k : Below w1.heap.size w1 w2) (h : Below W0.heap.size W0 w1) : Below W0.heap.size W0 w2 := h.trans (k.mono h.size)
theorem gb_below {W0 w1 w2 : World} {u : Option Nat} (k : Below w1.heap.size w1 w2) (h : W0.grownBy w1 u) : W0.grownBy w2 u := grownBy_trans h ⟨k.os, k.tape, k.output, k.size, fun i hi _ => k.block i hi⟩
theorem gb_alloc {W0 w1 : World} {u : Option Nat} (h : W0.grownBy w1 u) (o : Obj) : W0.grownBy (w1.alloc o) u := grownBy_trans h (World.grownBy_alloc w1 o u)
theorem gb_set {W0 w1 : World} {r : Nat} (h : W0.grownBy w1 (some r)) (j : Nat) (v : Value) : W0.grownBy (w1.setCell ⟨r, j, none⟩ v) (some r) :=
  grownBy_trans h ⟨rfl, rfl, rfl, by simp [World.setCell], fun k _ hne => Below.heap_setCell _ _ _ _ (fun e => hne (by rw [e]))⟩
theorem gb_old {w W0 W : World} (h : Below w.heap.size w W0) (k : W0.grownBy W (some w.heap.size)) : Below w.heap.size w W :=
  h.trans ⟨k.os, k.tape, k.output, k.size, fun i hi => k.block i (Nat.lt_of_lt_of_le hi h.size) (fun e => by injection e with e; omega)⟩
theorem below_mk {W0 w1 : World} (h : Below W0.heap.size W0 w1) (o : Obj) : Below W0.heap.size W0 (w1.alloc o) := h.alloc h.size o
theorem D_refl' (w : World) (n : Nat) : Drawn0 w (w.drewN n) := ⟨⟨n, rfl⟩⟩
theorem D_trans {a b c : World} (h : Drawn0 a b) (k : Drawn0 b c) : Drawn0 a c := by
  obtain ⟨⟨n, rfl⟩⟩ := h
  obtain ⟨⟨m, rfl⟩⟩ := k
  exact (D_refl' a n).step m
theorem quiet_D {P : Program} {f : FuncId} {args : Array Value} {w : World} {n : Nat} {v : Value}
    (h : Calls P f args (w.drewN n) fun e w' => e = .returned v ∧ Drawn0 (w.drewN n) w') : Calls P f args (w.drewN n) fun e w'' => e = .returned v ∧ ∃ m, w'' = w.drewN m :=
  h.mono fun _ _ ⟨he, hD⟩ => ⟨he, by obtain ⟨⟨m, rfl⟩⟩ := hD; exact ⟨n + m, World.drewN_drewN ..⟩⟩
end Go.Proofs.YtknpkfjaffhejaaGreat
