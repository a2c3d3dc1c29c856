/- WHAT IS PROVED: Scan hands back an iterator whose contract is the elements from a key on and below another one. -/
import Derived.Test.YtjabcdfbncglnaaLSi
import Derived.Test.YtjabcdfbncglnaaLCn
namespace Go.Proofs.Ytjabcdfbncglnaa
open Go.RowKit Go.Shelf Go.Proofs.YtjabcdfbncglnaaW.PrintWords Go.Proofs.YtjabcdfbncglnaaW.PrintLast Go.Proofs.YtjabcdfbncglnaaW.PrintMore
open PTreeRanks (S59 k59 z59)
attribute [local go_sem] Oper.semAt_some
set_option linter.unusedVariables false
set_option linter.unusedSimpArgs false

theorem room_of_none {F : Fence} (hd : F.depth = none) (k : Nat) : F.room k := fun d h => by rw [hd] at h; cases h
theorem RoundIn.anyDepth {F : Fence} (hd : F.depth = none) {m m' : Nat} {P : Program} {l : Nat} {f : FuncId} {tmps : Array Value} {assign body : Code} {w : World} {R : Ending → World → Prop}
    (h : RoundIn F m P l f tmps assign body w R) : RoundIn F m' P l f tmps assign body w R := ⟨h.1, fun c cs _ => h.2 c cs (room_of_none hd _)⟩
theorem YieldAt.anyDepth {F : Fence} (hd : F.depth = none) {m : Nat} (m' : Nat) {P : Program} {l : Nat} {args : Array Value} {W : World} {R : Ending → World → Prop} (h : YieldAt F m P l args W R) : YieldAt F m' P l args W R := by
  obtain ⟨fn, tmps, assign, body, hy, hR⟩ := h
  exact ⟨fn, tmps, assign, body, hy, RoundIn.anyDepth hd hR⟩

/-- The iterator of a tree: what its function has captured, in three boxes, and the tree's nodes. -/
def IterAt (order : Nat) (l : List S59) (f u : ByteArray) (ok : Nat → Prop) (br bf bu : Nat) (W : World) : Prop :=
  ∃ t : AT, listA t = l ∧ 3 ≤ order ∧ order ≤ 64 ∧ WFA order t ∧ ok br ∧ ok bf ∧ ok bu ∧ (∃ v, W.heap[br]? = some (.cells #[v] 69 (0, 0)) ∧ (NK t.1).M W 0 ok t.2 [v]) ∧ W.heap[bf]? = some (.cells #[.string f] 9 (0, 0)) ∧ W.heap[bu]? = some (.cells #[.string u] 9 (0, 0))

variable {order br bf bu : Nat} {l : List S59} {f u : ByteArray} {ok : Nat → Prop} {w W W' : World}
theorem IterAt.kept (h : IterAt order l f u ok br bf bu W) (hk : KeptIn ok W W') : IterAt order l f u ok br bf bu W' := by
  obtain ⟨t, e, h3, h4, hW, o1, o2, o3, ⟨v, hv, hM⟩, hf, hu⟩ := h
  exact ⟨t, e, h3, h4, hW, o1, o2, o3, ⟨v, (hk _ o1).trans hv, (NK t.1).M_move hk hM⟩, (hk _ o2).trans hf, (hk _ o3).trans hu⟩

theorem abides_drewN {β : Type} {B : Nat} {J : β → World → Prop} (hJ : AbidesFrom B J) (s : β) (W : World) (n : Nat) (h : J s W) : J s (W.drewN n) :=
  hJ s W _ none h (by induction n with | zero => exact grownBy_refl _ _ | succ n ih => exact grownBy_drew ih) (fun r e => by cases e)

set_option maxRecDepth 100000 in
set_option maxHeartbeats 4000000 in
theorem iter_stops (h : IterAt order l f u ok br bf bu w) (hlt : ∀ k, ok k → k < w.heap.size) (n : Nat) :
    SeqStopsK Fence.wide n Try.prog 46 #[.pointer (some ⟨br, 0, none⟩), .pointer (some ⟨bf, 0, none⟩), .pointer (some ⟨bu, 0, none⟩)] (fun x : S59 => #[.string x.f0, .int .i64 x.f1]) (KeptIn ok) (fun ys => ys = scanL f u l) (fun pre => pre <+: scanL f u l) (scanL f u l).length w := fun l' J Jx W hW hJ hJx hY h0 => by
  have hk : KeptIn ok w W := fun k hk => hW.block k (hlt k hk)
  obtain ⟨t, rfl, h3, h4, hWF, ob, of, ou, ⟨v, hv, hM⟩, hf, hu⟩ := h.kept hk
  have hsc := scan_calls (N := (scanL f u (listA t)).length) h3 h4 (fun pre W n hj => abides_drewN hJ pre W n hj) (fun m pre x W hj hl => YieldAt.anyDepth rfl m (hY pre x W hj hl)) f u t.1 hWF v [] W hM h0 (by simp [listA])
  have c0 : W.cell? ⟨br, 0, none⟩ = some v := (blk_cell hv 0).trans rfl
  have c1 : W.cell? ⟨bf, 0, none⟩ = some (.string f) := (blk_cell hf 0).trans rfl
  have c2 : W.cell? ⟨bu, 0, none⟩ = some (.string u) := (blk_cell hu 0).trans rfl
  obtain ⟨ty, a, rfl⟩ := NK_form ((NK t.1).K_of_M hM)
  have HSC := Aside0.mk hsc
  clear h hW hJ hJx hY hk hWF hM hf hu hv hsc
  refine callsIn_of_wp Try.func46 rfl trivial ?_ rfl
  simp only [Try.ntmps46, List.size_toArray, List.length_cons, List.length_nil, Nat.reduceAdd, Nat.reduceSub, Array.replicate_succ, Array.replicate_zero, List.push_toArray, List.append_toArray, List.nil_append, List.cons_append]
  gi_wp2_with fail
  refine ⟨trivial, fun e => (by cases e), (callsIn_wide.2 HSC.out).mono ?_⟩
  rintro e W1 (⟨rfl, hJ1, _⟩ | ⟨rfl, q, hq, hx⟩)
  · gi_wp2_with fail
    go_end0
    exact ⟨⟨_, rfl⟩, .inl ⟨_, rfl, by simpa [listA] using hJ1⟩⟩
  · gi_wp2_with fail
    go_end0
    exact ⟨⟨_, rfl⟩, .inr ⟨q, by simpa [listA] using hq, by simpa using hx⟩⟩

theorem keptIn_b (hlt : ∀ k, ok k → k < w.heap.size) (W : World) (l : Nat) (o o' : Obj) (hl : w.heap.size ≤ l) (h : W.heap[l]? = some o) (_ : o.isCells = false) (_ : o.isWalk = false) : KeptIn ok W (W.putObj l o') := fun k hk =>
  World.putObj_heap_other (by have := hlt k hk; omega)

/-- What the iterator of a tree takes care of. -/
def OkI (ok : Nat → Prop) (n : Nat) : Nat → Prop := fun k => (ok k ∧ k < n) ∨ k = n ∨ k = n + 1 ∨ k = n + 2

set_option maxRecDepth 100000 in
set_option maxHeartbeats 4000000 in
theorem iter_calls {bt : Nat} (h : TG order l ok bt w) (f u : ByteArray) : Calls Try.prog 22 #[.pointer (some ⟨bt, 0, none⟩), .string f, .string u] w fun e w' =>
    e = .returned (.func (.func 46) #[] #[.pointer (some ⟨w.heap.size + 2, 0, none⟩), .pointer (some ⟨w.heap.size, 0, none⟩), .pointer (some ⟨w.heap.size + 1, 0, none⟩)]) ∧ Below w.heap.size w w' ∧ w'.heap.size = w.heap.size + 3 ∧ IterAt order l f u (OkI ok w.heap.size) (w.heap.size + 2) w.heap.size (w.heap.size + 1) w' := by
  have h' := h.imp (ok' := OkI ok w.heap.size) (fun k hk hlt => .inl ⟨hk, hlt⟩)
  obtain ⟨h1, h2, t, e, h3, h4, v, h5, h6⟩ := h'
  have hb := below_mk (below_mk (Below.refl w.heap.size w) (.cells #[.string f] 9)) (.cells #[.string u] 9)
  have e1 : (w.alloc (.cells #[.string f] 9)).heap.size = w.heap.size + 1 := by simp
  have e2 : ((w.alloc (.cells #[.string f] 9)).alloc (.cells #[.string u] 9)).heap.size = w.heap.size + 2 := by simp
  obtain ⟨ty, a, rfl⟩ := NK_form ((NK t.1).K_of_M h6)
  have hb3 := below_mk hb (.cells #[.iface ty (.pointer (some ⟨a, 0, none⟩))] 69)
  have hf : (((w.alloc (.cells #[.string f] 9)).alloc (.cells #[.string u] 9)).alloc (.cells #[.iface ty (.pointer (some ⟨a, 0, none⟩))] 69)).heap[w.heap.size]? = some (.cells #[.string f] 9 (0, 0)) :=
    (Below.heap_alloc _ _ _ (by rw [e2]; omega)).trans ((Below.heap_alloc _ _ _ (by rw [e1]; omega)).trans (heap_alloc_new w _))
  have hu : (((w.alloc (.cells #[.string f] 9)).alloc (.cells #[.string u] 9)).alloc (.cells #[.iface ty (.pointer (some ⟨a, 0, none⟩))] 69)).heap[w.heap.size + 1]? = some (.cells #[.string u] 9 (0, 0)) := by
    refine (Below.heap_alloc _ _ _ (by rw [e2]; omega)).trans ?_
    rw [← e1]
    exact heap_alloc_new _ _
  have hr : (((w.alloc (.cells #[.string f] 9)).alloc (.cells #[.string u] 9)).alloc (.cells #[.iface ty (.pointer (some ⟨a, 0, none⟩))] 69)).heap[w.heap.size + 2]? = some (.cells #[.iface ty (.pointer (some ⟨a, 0, none⟩))] 69 (0, 0)) := by
    rw [← e2]
    exact heap_alloc_new _ _
  have HI : Aside0 (IterAt order l f u (OkI ok w.heap.size) (w.heap.size + 2) w.heap.size (w.heap.size + 1) (((w.alloc (.cells #[.string f] 9)).alloc (.cells #[.string u] 9)).alloc (.cells #[.iface ty (.pointer (some ⟨a, 0, none⟩))] 69))) :=
    ⟨t, e, h1, h2, h3, .inr (.inr (.inr rfl)), .inr (.inl rfl), .inr (.inr (.inl rfl)), ⟨_, hr, Kd.M_step h6 (fun k hk hlt => hb3.block k hlt)⟩, hf, hu⟩
  have hs : (((w.alloc (.cells #[.string f] 9)).alloc (.cells #[.string u] 9)).alloc (.cells #[.iface ty (.pointer (some ⟨a, 0, none⟩))] 69)).heap.size = w.heap.size + 3 := by simp
  have HB := Aside0.mk hb3
  have HS := Aside0.mk hs
  have y1 : ((w.alloc (.cells #[.string f] 9)).alloc (.cells #[.string u] 9)).cell? ⟨bt, 1, none⟩ = some (.iface ty (.pointer (some ⟨a, 0, none⟩))) := (blk_cell ((hb.block _ (blk_lt h5)).trans h5) 1).trans rfl
  have HNO := Aside0.mk (none_some bt ((w.alloc (.cells #[.string f] 9)).alloc (.cells #[.string u] 9)) ((NK t.1).K_below hb ((NK t.1).K_of_M h6)) y1)
  clear h h6 h5 hb hb3 hf hu hr hs h3 h4
  go_enter Try.func22, Try.ntmps22
  go_wp2_with fail
  refine HNO.out.mono ?_
  rintro e w' ⟨rfl, rfl⟩
  go_wp2
  go_ret
  exact ⟨rfl, HB.out, HS.out, HI.out⟩
end Go.Proofs.Ytjabcdfbncglnaa
