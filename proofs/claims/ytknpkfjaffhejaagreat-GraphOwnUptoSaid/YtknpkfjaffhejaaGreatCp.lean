/- WHAT IS PROVED: slices.Compact at edges. -/
import Derived.Test.YtknpkfjaffhejaaGreatSo
import Derived.Lib.SlicesCompact
import Derived.Deep.LoopGhost
import Derived.BigQuiet
import Derived.Shelf.RegionOpenPlain
namespace Go.Proofs.YtknpkfjaffhejaaGreat
open Go.RowKit Go.Sort Go.Lib Go.Proofs.YtknpkfjaffhejaaGreatW.PrintWords Go.Proofs.YtknpkfjaffhejaaGreatW.PrintLast Go.Proofs.YtknpkfjaffhejaaGreatW.PrintMore
set_option linter.unusedVariables false
set_option linter.unusedSimpArgs false

def zrE : Edge := ⟨⟨#[]⟩, 0, ⟨#[]⟩, 0, 0, false⟩
theorem zv31 (w : World) : (zeroValue 39).run Tryz.prog w = .ok (.agg (encE zrE).toArray) w := by kernel_rfl

/-- 'clear' of the row's end: what stands ahead of it stays. -/
theorem clearE {P : Program} (t22 : P.underlying 22 = some (.slice 39)) (v31 : ∀ w, (zeroValue 39).run P w = .ok (.agg (encE zrE).toArray) w) {w0 W : World} {blk off : Nat} {d : Array Edge} (h : Row w0 blk off d W) (k : Nat) (hk : k < d.size) (c : Nat) :
    ∃ W2, (∀ ty, (Builtin.clear_ #[22] ty #[.slice (some ⟨blk, off + k * 6, none⟩) (d.size - k) c]).run P W = .ok (.tuple #[]) W2) ∧ Row w0 blk off (d.toList.take k).toArray W2 := by
  obtain ⟨m, hm⟩ : ∃ m, d.size - k = m + 1 := ⟨d.size - k - 1, by omega⟩
  obtain ⟨zs, hzs⟩ : ∃ zs, zs = (Builtin.zeroCells (Value.agg (encE zrE).toArray).cells (m + 1)).toList := ⟨_, rfl⟩
  have hzl : zs.length = (m + 1) * 6 := by rw [hzs]; simp [Builtin.zeroCells, Value.cells, encE]
  have hz1 : ∀ v ∈ zs, v.oneCell' = true := by
    intro v hv
    rw [hzs] at hv
    simp [Builtin.zeroCells, Value.cells, encE] at hv
    obtain ⟨i, hi, rfl⟩ := hv
    have : i % 6 < 6 := Nat.mod_lt _ (by omega)
    match h6 : i % 6, this with
    | 0, _ => rfl
    | 1, _ => rfl
    | 2, _ => rfl
    | 3, _ => rfl
    | 4, _ => rfl
    | 5, _ => rfl
  have hF : Holds id W blk off (flatK encE 6 d) := h.holds
  have hst := stores_of_holds P hF (k * 6) zs (by rw [hzl, size_flatK]; omega) hz1
  refine ⟨W.setCells blk (off + k * 6) zs, fun ty => ?_, h.old, by rw [size_setCells]; exact h.lt, below_setCells h.old _ _ _ h.below, ?_⟩
  · rw [hm]
    simp [Builtin.clear_, run_underlying t22, v31]
    rw [show (Builtin.zeroCells (Value.agg (encE zrE).toArray).cells (m + 1)).toList = zs from hzs.symm, hst]
    rfl
  · intro j hj
    rw [size_flatK] at hj
    simp at hj
    have hj6 : j < k * 6 := by omega
    have := h.holds j (by rw [size_flatK]; omega)
    refine ⟨?_, by rw [World.frozen?_setCells]; exact this.2⟩
    rw [World.cell?_setCells_out blk zs _ W _ (fun _ _ => .inl (by show off + j < off + k * 6; omega)), this.1]
    rw [get_flatK _ _ _ _ (by omega), get_flatK _ _ _ _ (by simp; omega)]
    have hq : j / 6 < k := by omega
    have : (d.toList.take k).toArray[j / 6]! = d[j / 6]! := by
      rw [getElem!_pos _ _ (by simp; omega), getElem!_pos _ _ (by omega)]
      simp
    rw [this]

/-- What the walks of the library at edges lean on, over any program. -/
structure EdgeFacts (P : Program) (k : Nat) : Prop where
  mixed : P.follows Departure.mixedOrders = true
  t0 : P.underlying 0 = Tryz.prog.underlying 0
  a0 : ∀ w, (isAgg 0).run P w = .ok false w
  z0 : ∀ w, (Go.sizeOf 0).run P w = .ok 1 w
  t3 : P.underlying 3 = some (.int .i64)
  a3 : ∀ w, (isAgg 3).run P w = .ok false w
  z3 : ∀ w, (Go.sizeOf 3).run P w = .ok 1 w
  t4 : P.underlying 4 = some .bool
  a4 : ∀ w, (isAgg 4).run P w = .ok false w
  z4 : ∀ w, (Go.sizeOf 4).run P w = .ok 1 w
  t22 : P.underlying 22 = some (.slice 39)
  a22 : ∀ w, (isAgg 22).run P w = .ok false w
  z22 : ∀ w, (Go.sizeOf 22).run P w = .ok 1 w
  a31 : ∀ w, (isAgg 39).run P w = .ok true w
  z31 : ∀ w, (Go.sizeOf 39).run P w = .ok k w
  v31 : ∀ w, (zeroValue 39).run P w = .ok (.agg (encE zrE).toArray) w
  heq : ∀ (x y : Edge) (w : World), Sem.run P (binOp .eql 39 (.agg (encE x).toArray) (.agg (encE y).toArray)) w = .ok (.bool (decide (x = y))) w
  hne : ∀ (x y : Edge) (w : World), Sem.run P (binOp .neq 39 (.agg (encE x).toArray) (.agg (encE y).toArray)) w = .ok (.bool (!decide (x = y))) w
  hgd : ∀ (op : BinOp) (a b : Operand) (x y : Edge) (w : World), Sem.run P (eqGuard op 39 a b (.agg (encE x).toArray) (.agg (encE y).toArray)) w = .ok () w
  hin : ∀ (x y : Edge) (w : World), Sem.run P (Op.equalIn 10000 39 (.agg (encE x).toArray) (.agg (encE y).toArray)) w = .ok (decide (x = y)) w
theorem edgeFacts : EdgeFacts Tryz.prog 6 := ⟨by kernel_rfl, rfl, Tryz.isAgg0, Tryz.sizeOf0, Tryz.underlying3, Tryz.isAgg3, Tryz.sizeOf3, Tryz.underlying4, Tryz.isAgg4, Tryz.sizeOf4, Tryz.underlying22, Tryz.isAgg22, Tryz.sizeOf22, Tryz.isAgg39, Tryz.sizeOf39, zv31, eqE, neE, guardE, inE⟩

theorem loadP (P : Program) {W : World} {blk off : Nat} {d : Array Edge} (hH : HoldsK encE 6 W blk off d) (i : Nat) (hi : i < d.size) {k : Nat} (hk : k = 6) : Sem.run P (loadCellsFrom ⟨blk, off + i * k, none⟩ 0 k #[]) W = .ok (encE d[i]!).toArray W := by
  subst hk
  exact run_loadCellsFrom_list P _ _ _ 6 (encE_len _) (HoldsK.cells hH encE_len hi)
theorem storeP (P : Program) {W : World} {blk off : Nat} {d : Array Edge} (hH : HoldsK encE 6 W blk off d) (i : Nat) (x : Edge) (hi : i < d.size) {k : Nat} (hk : k = 6) : Sem.run P (storeCells ⟨blk, off + i * k, none⟩ (encE x) 0) W = .ok () (W.setCells blk (off + i * 6) (encE x)) := by
  subst hk
  exact stores_of_holds P hH (i * 6) (encE x) (by rw [encE_len, size_flatK]; omega) (encE_one x)

theorem compact_ge {d : Array Edge} {k : Nat} {dk : Array Edge} (hI : CompInv d d.size k dk) : dk.toList.take k = compactUpTo d d.size := by
  have hl := hI.len
  have h := hI.low
  have hs := hI.size
  have hlt := hI.lt
  apply List.ext_getElem?
  intro j
  rw [List.getElem?_take]
  by_cases hj : j < k
  · rw [if_pos hj, h j hj, Array.getElem?_toList, getElem!_pos dk j (by omega), Array.getElem?_eq_getElem (by omega)]
  · rw [if_neg hj, List.getElem?_eq_none (by omega)]

theorem wrap_small (n : Nat) (h : n < 9223372036854775808) : IntKind.i64.wrap (n : Int) = (n : Int) := by
  have e : (n : Int) % 2 ^ 64 = n := Int.emod_eq_of_lt (by omega) (by omega)
  simp only [IntKind.wrap, IntKind.bits, IntKind.signed, e]
  rw [if_neg]
  simp
  omega

set_option maxHeartbeats 4000000 in
set_option maxRecDepth 100000 in
theorem compact_gen (P : Program) (FG : P.funcs[61]? = some Tryz.f61) (sz : Nat) (F : EdgeFacts P sz) (hz6 : sz = 6) (w0 : World) (blk off cap : Nat) (d : Array Edge) (w : World) (hR : Row w0 blk off d w) (hsz : d.size ≤ 4611686018427387904) (hcap : d.size ≤ cap) :
    Calls P 61 #[.slice (some ⟨blk, off, none⟩) d.size cap] w fun e w' => e = .returned (.slice (some ⟨blk, off, none⟩) (compactUpTo d d.size).length cap) ∧ Row w0 blk off (compactUpTo d d.size).toArray w' := by
  have mixed := F.mixed; have t0 := F.t0; have a0 := F.a0; have z0 := F.z0; have t3 := F.t3; have a3 := F.a3; have z3 := F.z3; have t4 := F.t4; have a4 := F.a4; have z4 := F.z4; have t22 := F.t22; have a22 := F.a22; have z22 := F.z22; have a31 := F.a31; have z31 := F.z31
  have heq := F.heq; have hne := F.hne; have hgd := F.hgd; have hin := F.hin
  have Z6 := Aside0.mk hz6
  clear hz6
  have HS : Aside0 (∀ w', Row w0 blk off d w' → (∀ j, j < d.size → keeps d j = true) → (compactUpTo d d.size).length = d.size ∧ Row w0 blk off (compactUpTo d d.size).toArray w') := ⟨by
    intro w' hR' hall
    have e : compactUpTo d d.size = d.toList := by rw [compactUpTo_all d _ hall, range_map_get]
    rw [e]
    exact ⟨by simp, by simpa using hR'⟩⟩
  have HR := Aside0.mk hR
  clear hR
  by_cases h2 : d.size < 2
  · go_enter FG, Tryz.ntmps61
    go_wp2
    go_ret
    obtain ⟨e1, e2⟩ := HS.out w HR.out (fun j hj => keeps_lt_one d j (by omega))
    exact ⟨by rw [e1]; rfl, e2⟩
  · go_enter FG, Tryz.ntmps61
    go_wp2
    go_loopg [3] d.size (fun g s3 wr => ∃ k : Nat, 1 ≤ k ∧ k ≤ d.size ∧ d.size - k ≤ g ∧ s3 = .int .i64 k ∧ Aside0 (Row w0 blk off d wr) ∧ Aside0 (∀ j, j < k → keeps d j = true))
    case atStart => exact ⟨1, Nat.le_refl _, by omega, by omega, rfl, HR, ⟨keeps_lt_one d⟩⟩
    case round =>
      obtain ⟨k, hk1, hk, hg, rfl, HW, A⟩ := hrel
      by_cases hlt : k < d.size
      · have l1 : ∀ m, Sem.run P (loadCellsFrom ⟨blk, off + k * sz, none⟩ 0 sz #[]) (wr.drewN m) = .ok (encE d[k]!).toArray (wr.drewN m) := fun m => loadP P (W := wr.drewN m) HW.out.holds k hlt Z6.out
        obtain ⟨k0, hk0⟩ : ∃ k0, k = k0 + 1 := ⟨k - 1, by omega⟩
        have l0 : ∀ m, Sem.run P (loadCellsFrom ⟨blk, off + k0 * sz, none⟩ 0 sz #[]) (wr.drewN m) = .ok (encE d[k0]!).toArray (wr.drewN m) := fun m => loadP P (W := wr.drewN m) HW.out.holds k0 (by omega) Z6.out
        have wk : IntKind.i64.wrap ((k : Int) - 1) = (k0 : Int) := by rw [hk0, show (((k0 + 1 : Nat) : Int) - 1) = (k0 : Int) by omega]; exact wrap_small k0 (by omega)
        have wk1 : (0 : Int) ≤ (k0 : Int) := by omega
        have wk2 : (k0 : Int) < (d.size : Int) := by omega
        generalize hx : d[k]! = x at l1
        generalize hy : d[k0]! = y at l0
        have B : Aside0 (d[k]! = x ∧ d[k0]! = y ∧ k = k0 + 1) := ⟨hx, hy, hk0⟩
        clear hx hy hk0
        by_cases hdup : x = y
        · subst hdup
          go_wp2_with fail
          go_quiet_o (fail)
          clear wk l0 l1
          go_wp2
          have HWq : Aside0 (Row w0 blk off d (wr.drewN nq)) := ⟨HW.out.gr ((Gr.refl wr).drewN nq)⟩
          generalize wr.drewN nq = wq at *
          clear HW
          go_loopg [3, 5] d.size (fun g s3 s5 wr => ∃ (kk k2 : Nat) (dk : Array Edge), s3 = .int .i64 kk ∧ s5 = .int .i64 k2 ∧ 1 ≤ k2 ∧ k + k2 ≤ d.size ∧ d.size - (k + k2) ≤ g ∧ Aside0 (Row w0 blk off dk wr) ∧ Aside0 (CompInv d (k + k2) kk dk))
          case atStart => exact ⟨k, 1, d, rfl, rfl, Nat.le_refl _, by omega, by omega, HWq, ⟨CompInv.start A.out (keeps_neg (by omega) (by have := B.out; rw [this.1, show k - 1 = k0 by omega, this.2.1]))⟩⟩
          case round =>
            obtain ⟨kk, k2, dk, rfl, rfl, h1, hle, hg2, HV, I2⟩ := hrel
            have hkk := I2.out.lt
            have hds := I2.out.size
            by_cases hlt2 : k + k2 < d.size
            · obtain ⟨k3, hk3⟩ : ∃ k3, k2 = k3 + 1 := ⟨k2 - 1, by omega⟩
              have l1 : ∀ m, Sem.run P (loadCellsFrom ⟨blk, off + k * sz + k2 * sz, none⟩ 0 sz #[]) (wr.drewN m) = .ok (encE dk[k + k2]!).toArray (wr.drewN m) := fun m => by
                have := loadP P (W := wr.drewN m) HV.out.holds (k + k2) (by omega) Z6.out
                rwa [Nat.add_mul, ← Nat.add_assoc] at this
              have l0 : ∀ m, Sem.run P (loadCellsFrom ⟨blk, off + k * sz + k3 * sz, none⟩ 0 sz #[]) (wr.drewN m) = .ok (encE dk[k + k3]!).toArray (wr.drewN m) := fun m => by
                have := loadP P (W := wr.drewN m) HV.out.holds (k + k3) (by omega) Z6.out
                rwa [Nat.add_mul, ← Nat.add_assoc] at this
              rw [I2.out.high (k + k2) (by omega)] at l1
              rw [I2.out.high (k + k3) (by omega)] at l0
              have wk : IntKind.i64.wrap ((k2 : Int) - 1) = (k3 : Int) := by rw [hk3, show (((k3 + 1 : Nat) : Int) - 1) = (k3 : Int) by omega]; exact wrap_small k3 (by omega)
              have wk1 : (0 : Int) ≤ (k3 : Int) := by omega
              have wk2 : (k3 : Int) < ((d.size - k : Nat) : Int) := by omega
              have wk3 : (k2 : Int) < ((d.size - k : Nat) : Int) := by omega
              have hu : ∃ u, d[k + k2]! = u := ⟨_, rfl⟩
              obtain ⟨u, hu⟩ := hu
              rw [hu] at l1
              generalize hv : d[k + k3]! = v at l0
              have C : Aside0 (d[k + k2]! = u ∧ d[k + k3]! = v ∧ k2 = k3 + 1) := ⟨hu, hv, hk3⟩
              clear hu hv hk3
              by_cases huv : u = v
              · subst huv
                go_wp2_with fail
                go_quiet_o (fail)
                clear wk l0 l1
                go_wp2
                go_roundg (d.size - (k + (k2 + 1)))
                case measure => omega
                case rel => exact ⟨kk, k2 + 1, dk, rfl, by go_num, by omega, by omega, Nat.le_refl _, ⟨HV.out.gr ((Gr.refl wr).drewN nq)⟩, ⟨I2.out.skip (keeps_neg (by omega) (by have := C.out; rw [this.1, show k + k2 - 1 = k + k3 by omega, this.2.1]))⟩⟩
              · have hdd : decide (u = v) = false := decide_eq_false huv
                have st : ∀ m, Sem.run P (storeCells ⟨blk, off + kk * sz, none⟩ (encE u) 0) (wr.drewN m) = .ok () ((wr.drewN m).setCells blk (off + kk * 6) (encE u)) := fun m => storeP P (W := wr.drewN m) HV.out.holds kk u (by omega) Z6.out
                have hlu : (encE u).length = sz := by rw [Z6.out]; rfl
                have wk4 : (kk : Int) < (d.size : Int) := by omega
                go_wp2_with fail
                go_quiet_o (fail)
                clear wk l0
                go_wp2
                go_roundg (d.size - (k + (k2 + 1)))
                case measure => omega
                case rel => exact ⟨kk + 1, k2 + 1, dk.setIfInBounds kk u, by go_num, by go_num, by omega, by omega, Nat.le_refl _, ⟨(HV.out.gr ((Gr.refl wr).drewN nq)).set kk u (by omega)⟩, ⟨by have := I2.out.keep hlt2 (keeps_pos (by have := C.out; rw [this.1, show k + k2 - 1 = k + k3 by omega, this.2.1]; exact huv)); rwa [C.out.1] at this⟩⟩
            · have hend : k + k2 = d.size := by omega
              obtain ⟨W2, hcl, hR2⟩ := clearE F.t22 F.v31 HV.out kk (by omega) (cap - kk)
              rw [hds, ← Z6.out] at hcl
              have HR2 := Aside0.mk hR2
              clear hR2
              go_wp2
              go_ret
              have hI := I2.out
              rw [hend] at hI
              rw [hI.len]
              exact ⟨rfl, by rw [← compact_ge hI]; exact HR2.out⟩
        · have hdd : decide (x = y) = false := decide_eq_false hdup
          go_wp2_with fail
          go_quiet_o (fail)
          clear wk l0 l1
          go_wp2
          go_roundg (d.size - (k + 1))
          case measure => omega
          case rel =>
            refine ⟨k + 1, by omega, by omega, Nat.le_refl _, by go_num, ⟨HW.out.gr ((Gr.refl wr).drewN nq)⟩, ⟨fun j hj => ?_⟩⟩
            by_cases e : j = k
            · subst e
              exact keeps_pos (by have := B.out; rw [this.1, show j - 1 = k0 by omega, this.2.1]; exact hdup)
            · exact A.out j (by omega)
      · have : k = d.size := by omega
        subst this
        go_wp2
        go_ret
        obtain ⟨e1, e2⟩ := HS.out wr HW.out A.out
        exact ⟨by rw [e1]; rfl, e2⟩
theorem compact_calls (w0 : World) (blk off cap : Nat) (d : Array Edge) (w : World) (hR : Row w0 blk off d w) (hsz : d.size ≤ 4611686018427387904) (hcap : d.size ≤ cap) :
    Calls Tryz.prog 61 #[.slice (some ⟨blk, off, none⟩) d.size cap] w fun e w' => e = .returned (.slice (some ⟨blk, off, none⟩) (compactUpTo d d.size).length cap) ∧ Row w0 blk off (compactUpTo d d.size).toArray w' :=
  compact_gen Tryz.prog Tryz.func61 6 edgeFacts rfl w0 blk off cap d w hR hsz hcap
theorem compact_none (p : Option Addr) (cap : Nat) (w : World) : Calls Tryz.prog 61 #[.slice p 0 cap] w fun e w' => e = .returned (.slice p 0 cap) ∧ w' = w := by
  go_enter Tryz.func61, Tryz.ntmps61
  go_wp2
  go_ret
  exact ⟨rfl, rfl⟩
end Go.Proofs.YtknpkfjaffhejaaGreat
