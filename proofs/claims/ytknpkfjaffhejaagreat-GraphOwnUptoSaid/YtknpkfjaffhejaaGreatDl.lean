/- WHAT IS PROVED: slices.DeleteFunc at edges, with the closure of vulnerable. -/
import Derived.Test.YtknpkfjaffhejaaGreatCp
import Derived.Lib.SlKept
import Derived.Laws.Alloc2
namespace Go.Proofs.YtknpkfjaffhejaaGreat
open Go.RowKit Go.Sort Go.Lib Go.Proofs.YtknpkfjaffhejaaGreatW.PrintWords Go.Proofs.YtknpkfjaffhejaaGreatW.PrintLast Go.Proofs.YtknpkfjaffhejaaGreatW.PrintMore
set_option linter.unusedVariables false
set_option linter.unusedSimpArgs false

theorem pred_calls (x : Edge) (w : World) : Calls Tryz.prog 47 #[.agg (encE x).toArray] w fun e w' => e = .returned (.bool (!x.v)) ∧ Gr w w' := by
  obtain ⟨p, n, q, m, k, v⟩ := x
  show Calls Tryz.prog 47 #[.agg #[.string p, .int .i64 n, .string q, .int .i64 m, .int .i64 k, .bool v]] w _
  have hu31 := Tryz.underlying39
  have hn1 := heap_alloc_new w (.cells #[.string p, .int .i64 n, .string q, .int .i64 m, .int .i64 k, .bool v] 39)
  have x5 := (blk_cell hn1 5).trans (show (#[Value.string p, .int .i64 n, .string q, .int .i64 m, .int .i64 k, .bool v])[5]? = some (.bool v) from rfl)
  clear hn1
  have HG := Aside0.mk ((Gr.refl w).alloc (.cells #[.string p, .int .i64 n, .string q, .int .i64 m, .int .i64 k, .bool v] 39))
  go_enter Tryz.func47, Tryz.ntmps47
  go_wp2_with fail
  go_ret
  exact ⟨rfl, HG.out⟩

/-- A new block of an edge, filled. -/
theorem fillE (w : World) (u : Edge) : (w.alloc (.cells (encE zrE).toArray 39)).setCells w.heap.size 0 (encE u) = w.alloc (.cells (encE u).toArray 39) := by
  simp only [encE, World.setCells, World.setCell_alloc_new]
  rfl
theorem storeNew (P : Program) (w : World) (u : Edge) : Sem.run P (storeCells ⟨w.heap.size, 0, none⟩ (encE u) 0) (w.alloc (.cells (encE zrE).toArray 39)) = .ok () (w.alloc (.cells (encE u).toArray 39)) := by
  have hn := heap_alloc_new w (.cells (encE zrE).toArray 39)
  have := run_storeCells_cells (P := P) w.heap.size 0 (encE u) 0 (w.alloc (.cells (encE zrE).toArray 39)) (fun c hc => by
    rw [Nat.add_zero, Nat.zero_add, blk_cell hn]
    rw [encE_len] at hc
    match c, hc with
    | 0, _ => rfl
    | 1, _ => rfl
    | 2, _ => rfl
    | 3, _ => rfl
    | 4, _ => rfl
    | 5, _ => rfl) (fun c hc => blk_frozen hn _) (encE_one u)
  rw [this, Nat.zero_add, fillE]

theorem loadNew (P : Program) (w w' : World) (u : Edge) (hg : Gr (w.alloc (.cells (encE u).toArray 39)) w') {k : Nat} (hk : k = 6) : Sem.run P (loadCellsFrom ⟨w.heap.size, 0, none⟩ 0 k #[]) w' = .ok (encE u).toArray w' := by
  subst hk
  refine run_loadCellsFrom_list P _ _ _ 6 (encE_len _) fun j v hj => ?_
  have hn := (hg.below.block _ (by simp)).trans (heap_alloc_new w (.cells (encE u).toArray 39))
  rw [Addr.add_lit, Nat.zero_add, blk_cell hn]
  simpa using hj

/-- What 'idxBy' gives. -/
theorem idx_spec (p : Edge → Bool) (x : Edge) : ∀ (l : List Edge) (i : Nat), (Lib.idxByFrom (fun _ y => p y) x l i = -1 ∧ ∀ j, j < l.length → p l[j]! = false) ∨ ∃ k, k < l.length ∧ Lib.idxByFrom (fun _ y => p y) x l i = ((i + k : Nat) : Int) ∧ p l[k]! = true ∧ ∀ j, j < k → p l[j]! = false
  | [], _ => .inl ⟨rfl, fun j hj => absurd hj (Nat.not_lt_zero _)⟩
  | y :: r, i => by
    cases h : p y with
    | true => exact .inr ⟨0, by simp, by simp [Lib.idxByFrom, h], by simpa using h, fun j hj => absurd hj (Nat.not_lt_zero _)⟩
    | false =>
      rcases idx_spec p x r (i + 1) with ⟨e, ha⟩ | ⟨k, hk, e, ht, ha⟩
      · refine .inl ⟨by simp [Lib.idxByFrom, h, e], fun j hj => ?_⟩
        cases j with
        | zero => simpa using h
        | succ j => simpa using ha j (by simpa using hj)
      · refine .inr ⟨k + 1, by simpa using hk, by simp [Lib.idxByFrom, h, e]; omega, by simpa using ht, fun j hj => ?_⟩
        cases j with
        | zero => simpa using h
        | succ j => simpa using ha j (by omega)

theorem kept_ge {kp : Nat → Bool} {d : Array Edge} {k : Nat} {dk : Array Edge} (hI : KeptInv kp d d.size k dk) : dk.toList.take k = keptUpTo kp d d.size := by
  have hl := hI.len
  have h := hI.low
  have hs := hI.size
  have hlt := hI.lt
  apply List.ext_getElem?
  intro j
  rw [List.getElem?_take]
  by_cases hj : j < k
  · rw [if_pos hj, h j hj, Array.getElem?_toList, getElem!_pos dk j (by omega), Array.getElem?_eq_getElem (by omega)]
  · rw [if_neg hj, List.getElem?_eq_none (by omega)]

theorem Row.box {w0 : World} {blk off : Nat} {d : Array Edge} {W : World} (h : Row w0 blk off d W) (u : Edge) : Row w0 blk off d (W.alloc (.cells (encE u).toArray 39)) := h.gr ((Gr.refl W).alloc _)

set_option maxHeartbeats 4000000 in
set_option maxRecDepth 100000 in
theorem delete_gen (P : Program) (FG : P.funcs[45]? = some Tryz.f45) (sz : Nat) (F : EdgeFacts P sz) (hz6 : sz = 6) (w0 : World) (blk off cap : Nat) (d : Array Edge) (w : World) (hR : Row w0 blk off d w) (hsz : d.size ≤ 4611686018427387904) (hcap : d.size ≤ cap)
    (t88 : P.underlying 79 = Tryz.prog.underlying 79) (p : Edge → Bool)
    (e63 : ∀ args w, (callFunc 62 args).run P w = .ok (.enter 62 args) w) (e47 : ∀ args w, (callFunc 47 args).run P w = .ok (.enter 47 args) w)
    (hIF : Calls P 62 #[.slice (some ⟨blk, off, none⟩) d.size cap, .func (.func 47) #[] #[]] w fun e w' => e = .returned (.int .i64 (Lib.idxBy (fun _ y => p y) d.toList default)) ∧ Row w0 blk off d w')
    (hp : ∀ (x : Edge) (W : World), Calls P 47 #[.agg (encE x).toArray] W fun e w' => e = .returned (.bool (p x)) ∧ Gr W w') :
    Calls P 45 #[.slice (some ⟨blk, off, none⟩) d.size cap, .func (.func 47) #[] #[]] w fun e w' => e = .returned (.slice (some ⟨blk, off, none⟩) (d.toList.filter fun x => !p x).length cap) ∧ Row w0 blk off (d.toList.filter fun x => !p x).toArray w' := by
  have mixed := F.mixed; have t0 := F.t0; have a0 := F.a0; have z0 := F.z0; have t3 := F.t3; have a3 := F.a3; have z3 := F.z3; have t4 := F.t4; have a4 := F.a4; have z4 := F.z4; have t22 := F.t22; have a22 := F.a22; have z22 := F.z22; have a31 := F.a31; have z31 := F.z31; have v31 := F.v31
  have Z6 := Aside0.mk hz6
  clear hz6
  have tl : ∀ j, j < d.size → d.toList[j]! = d[j]! := fun j hj => by rw [getElem!_pos d j hj, getElem!_pos d.toList j (by simpa using hj)]; simp
  obtain ⟨kp, HK⟩ : ∃ kp : Nat → Bool, Aside0 (kp = fun j => !p d[j]!) := ⟨_, ⟨rfl⟩⟩
  have hfil : (d.toList.filter fun x => !p x) = keptUpTo kp d d.size := by rw [HK.out]; exact (keptUpTo_filter (fun x => !p x) d).symm
  rw [hfil]
  rcases idx_spec p default d.toList 0 with ⟨e1, hall⟩ | ⟨k0, hk0, e1, ht, hall⟩
  · have e2 : Lib.idxBy (fun _ y => p y) d.toList default = -1 := e1
    rw [e2] at hIF
    have hkeep : ∀ j, j < d.size → kp j = true := fun j hj => by rw [HK.out]; show (!p d[j]!) = true; rw [← tl j hj, hall j (by simpa using hj)]; rfl
    have e3 : keptUpTo kp d d.size = d.toList := by rw [keptUpTo_all kp d _ hkeep, range_map_get]
    clear hR hp e1 hall
    go_enter FG, Tryz.ntmps45
    go_wp2_with (go_at_fn 62; refine hIF.mono ?_; rintro e w' ⟨rfl, hR2⟩)
    go_ret
    rw [e3]
    exact ⟨by simp, by simpa using hR2⟩
  · have hk0' : k0 < d.size := by simpa using hk0
    have e2 : Lib.idxBy (fun _ y => p y) d.toList default = (k0 : Int) := by unfold Lib.idxBy; rw [e1]; simp
    rw [e2] at hIF
    have hkeep : ∀ j, j < k0 → kp j = true := fun j hj => by rw [HK.out]; show (!p d[j]!) = true; rw [← tl j (by omega), hall j hj]; rfl
    have hdrop : kp k0 = false := by rw [HK.out]; show (!p d[k0]!) = false; rw [← tl k0 hk0']; rw [ht]; rfl
    have hne1 : ((k0 : Int) == -1) = false := beq_eq_false_iff_ne.2 (by omega)
    have HP := Aside0.mk hp
    have HKD := Aside0.mk (And.intro hkeep hdrop)
    clear hR hp e1 hall ht tl e2 hkeep hdrop
    go_enter FG, Tryz.ntmps45
    go_wp2_with (go_at_fn 62; refine hIF.mono ?_; rintro e w' ⟨rfl, hR2⟩)
    have HR2 := Aside0.mk hR2
    clear hR2
    go_loopg [5, 6, 7] d.size (fun gg s5 s6 _ wr => ∃ (i j : Nat) (dk : Array Edge), s5 = .int .i64 i ∧ s6 = .int .i64 j ∧ j ≤ d.size ∧ d.size - j ≤ gg ∧ Aside0 (Row w0 blk off dk wr) ∧ Aside0 (KeptInv kp d j i dk))
    case atStart => exact ⟨k0, k0 + 1, d, rfl, by go_num, by omega, by omega, HR2, ⟨KeptInv.start HKD.out.1 HKD.out.2⟩⟩
    case round =>
      obtain ⟨i, j, dk, rfl, rfl, hjd, hgg, HW, I2⟩ := hrel
      have hij := I2.out.lt
      have hds := I2.out.size
      by_cases hlt : j < d.size
      · have hltz : (j : Int) < (d.size : Int) := by omega
        have hiz : (i : Int) < (d.size : Int) := by omega
        have l1 : Sem.run P (loadCellsFrom ⟨blk, off + j * sz, none⟩ 0 sz #[]) wr = .ok (encE dk[j]!).toArray wr := loadP P HW.out.holds j (by omega) Z6.out
        rw [I2.out.high j (by omega)] at l1
        generalize hu : d[j]! = u at l1
        have C := Aside0.mk hu
        clear hu
        have sN := storeNew P wr u
        have lN := loadNew P wr _ u (Gr.refl _) Z6.out
        have hlu : (encE u).length = sz := by rw [Z6.out]; rfl
        have hlz : (encE zrE).length = sz := by rw [Z6.out]; rfl
        have hcall := HP.out u (wr.alloc (.cells (encE u).toArray 39))
        have HN : Aside0 (∀ w', Gr (wr.alloc (.cells (encE u).toArray 39)) w' → Sem.run P (loadCellsFrom ⟨wr.heap.size, 0, none⟩ 0 sz #[]) w' = .ok (encE u).toArray w' ∧ Sem.run P (storeCells ⟨blk, off + i * sz, none⟩ (encE u) 0) w' = .ok () (w'.setCells blk (off + i * 6) (encE u)) ∧ Row w0 blk off dk w') :=
          ⟨fun w' hg => ⟨loadNew P wr w' u hg Z6.out, storeP P ((HW.out.box u).gr hg).holds i u (by omega) Z6.out, (HW.out.box u).gr hg⟩⟩
        cases hq : p u with
        | false =>
          rw [hq] at hcall
          go_wp2_with (go_at_fn 47; refine hcall.mono ?_; rintro e w' ⟨rfl, hg⟩; have lN2 := (HN.out w' hg).1; have st := (HN.out w' hg).2.1; have HW2 := Aside0.mk (HN.out w' hg).2.2)
          go_roundg (d.size - (j + 1))
          case measure => omega
          case rel =>
            refine ⟨i + 1, j + 1, dk.setIfInBounds i u, by go_num, by go_num, by omega, Nat.le_refl _, ⟨HW2.out.set i u (by omega)⟩, ⟨?_⟩⟩
            have := I2.out.keep hlt (by rw [HK.out]; show (!p d[j]!) = true; rw [C.out, hq]; rfl)
            rwa [C.out] at this
        | true =>
          rw [hq] at hcall
          go_wp2_with (go_at_fn 47; refine hcall.mono ?_; rintro e w' ⟨rfl, hg⟩; have HW2 := Aside0.mk (HN.out w' hg).2.2)
          go_roundg (d.size - (j + 1))
          case measure => omega
          case rel => exact ⟨i, j + 1, dk, rfl, by go_num, by omega, Nat.le_refl _, HW2, ⟨I2.out.skip (by rw [HK.out]; show (!p d[j]!) = false; rw [C.out, hq]; rfl)⟩⟩
      · obtain rfl : j = d.size := by omega
        have hltz : ¬ (d.size : Int) < (d.size : Int) := by omega
        obtain ⟨W2, hcl, hRc⟩ := clearE F.t22 F.v31 HW.out i (by omega) (cap - i)
        rw [hds, ← Z6.out] at hcl
        have HRc := Aside0.mk hRc
        clear hRc
        go_wp2
        go_ret
        have hI := I2.out
        rw [hI.len]
        exact ⟨rfl, by rw [← kept_ge hI]; exact HRc.out⟩
theorem index_calls (w0 : World) (blk off cap : Nat) (d : Array Edge) (w : World) (hR : Row w0 blk off d w) (hsz : d.size ≤ 4611686018427387904) :
    Calls Tryz.prog 62 #[.slice (some ⟨blk, off, none⟩) d.size cap, .func (.func 47) #[] #[]] w fun e w' => e = .returned (.int .i64 (Lib.idxBy (fun _ y : Edge => !y.v) d.toList default)) ∧ Row w0 blk off d w' := by
  have eg : ∀ args w, (callFunc 47 args).run Tryz.prog w = .ok (.enter 47 args) w := enters_of Tryz.func47 (by kernel_rfl) rfl
  have h := AnyQ.slices_IndexFunc Tryz.idxEdge 6 Tryz.isAgg39 Tryz.sizeOf39 encE encE_len (fun y => !y.v) 47 #[] eg blk off d.size cap d.toList w (fun W x hb => (pred_calls x W).mono fun e w' ⟨he, hg⟩ => ⟨he, hb.trans (hg.below.mono hb.size)⟩) (by simp) (by omega) hR.lt (fun j hj i v hi => by
    have hj' : j < d.size := by simpa using hj
    have e : d.toList[j]! = d[j]! := by rw [getElem!_pos d j hj', getElem!_pos d.toList j hj]; simp
    rw [e] at hi
    have := HoldsK.cells hR.holds encE_len hj' i v hi
    rwa [Addr.add_lit] at this)
  rw [show d.toList.take d.size = d.toList from List.take_of_length_le (by simp)] at h
  refine h.mono ?_
  rintro e w' ⟨rfl, hb⟩
  refine ⟨rfl, hR.old, Nat.lt_of_lt_of_le hR.lt hb.size, hR.below.trans (hb.mono hR.below.size), fun j hj => ?_⟩
  have hbl := hb.block blk hR.lt
  have := hR.holds j hj
  exact ⟨(World.cell?_of_block hbl).trans this.1, (World.frozen?_of_block hbl).trans this.2⟩

theorem delete_calls (w0 : World) (blk off cap : Nat) (d : Array Edge) (w : World) (hR : Row w0 blk off d w) (hsz : d.size ≤ 4611686018427387904) (hcap : d.size ≤ cap) :
    Calls Tryz.prog 45 #[.slice (some ⟨blk, off, none⟩) d.size cap, .func (.func 47) #[] #[]] w fun e w' => e = .returned (.slice (some ⟨blk, off, none⟩) (d.toList.filter fun x => x.v).length cap) ∧ Row w0 blk off (d.toList.filter fun x => x.v).toArray w' := by
  have h := delete_gen Tryz.prog Tryz.func45 6 edgeFacts rfl w0 blk off cap d w hR hsz hcap rfl (fun y => !y.v) (enters_of Tryz.func62 (by kernel_rfl) rfl) (enters_of Tryz.func47 (by kernel_rfl) rfl) (index_calls w0 blk off cap d w hR hsz) pred_calls
  simpa only [Bool.not_not] using h

set_option maxHeartbeats 2000000 in
set_option maxRecDepth 100000 in
theorem delete_none (p : Option Addr) (cap : Nat) (w : World) : Calls Tryz.prog 45 #[.slice p 0 cap, .func (.func 47) #[] #[]] w fun e w' => e = .returned (.slice p 0 cap) ∧ w' = w := by
  have hi : ∀ W, Calls Tryz.prog 62 #[.slice p 0 cap, .func (.func 47) #[] #[]] W fun e w' => e = .returned (.int .i64 (-1)) ∧ w' = W := fun W => by
    go_enter Tryz.func62, Tryz.ntmps62
    go_wp2
    refine wp_loop_rounds 1 ?_
    rw [rounds_succ]
    go_wp2
    go_ret
    exact ⟨rfl, rfl⟩
  go_enter Tryz.func45, Tryz.ntmps45
  go_wp2_with (go_at_call 62; refine (hi _).mono ?_; rintro e w' ⟨rfl, rfl⟩)
  go_ret
  exact ⟨rfl, rfl⟩
end Go.Proofs.YtknpkfjaffhejaaGreat
