/- WHAT IS PROVED: the document's node goes through a tree's nodes: its keys are gathered, its depth told, nothing is bad. the document's node, called at the place of a tree that lies in the list of nodes, gathers the tree's keys. -/
import Derived.Test.YtjabcdfbncglnaaLB13
import Derived.Deep.RegionHeld3
import Derived.StillTailTactics
namespace Go.Proofs.Ytjabcdfbncglnaa
open Go.RowKit Go.Proofs.YtjabcdfbncglnaaW.PrintWords Go.Proofs.YtjabcdfbncglnaaW.PrintLast Go.Proofs.YtjabcdfbncglnaaW.PrintMore
open PTreeRanks (S59 k59 z59 S43 k43 z43)
set_option linter.unusedVariables false
set_option linter.unusedSimpArgs false

/-- What stands within one node. -/
def NodeI (w0 : World) (F : Nat) (An : Option Addr) (n cn order : Nat) (cb nb : Nat) (lo hi : Option ByteArray) (lf : Bool) (Ak : Option Addr) (nk ck : Nat) (Ai : Option Addr) (ni ci : Nat) (W0 : World) (dep : Nat) (kv : Value) (acc : List ByteArray) (W : World) : Prop :=
  W.heap[cb]? = some (.cells (bndC lo hi) 96 (0, 0)) ∧ W.heap[nb]? = some (.cells #[.bool lf, .slice Ak nk ck, .slice Ai ni ci] 43 (0, 0)) ∧ FormI w0 F An n cn order dep kv acc W ∧ Keep9 F W0 W ∧ F < cb ∧ cb < nb

theorem NodeI.below {w0 : World} {F : Nat} {An : Option Addr} {n cn order cb nb : Nat} {lo hi : Option ByteArray} {lf : Bool} {Ak : Option Addr} {nk ck : Nat} {Ai : Option Addr} {ni ci : Nat} {W0 : World} {dep : Nat} {kv : Value} {acc : List ByteArray} {W W' : World}
    (h : NodeI w0 F An n cn order cb nb lo hi lf Ak nk ck Ai ni ci W0 dep kv acc W) (hb : Below W.heap.size W W') : NodeI w0 F An n cn order cb nb lo hi lf Ak nk ck Ai ni ci W0 dep kv acc W' :=
  ⟨(hb.block _ (blk_lt h.1)).trans h.1, (hb.block _ (blk_lt h.2.1)).trans h.2.1, h.2.2.1.below hb, h.2.2.2.1.below hb, h.2.2.2.2⟩

set_option maxHeartbeats 8000000 in
set_option maxRecDepth 100000 in
theorem node_step {w0 : World} {F : Nat} {An : Option Addr} {cn order : Nat} {r : List S43} (h3 : 3 ≤ order) (h4 : order ≤ 64) (hr : Kd.C k43 w0 An r.length r) (hcn : r.length ≤ cn)
    {i depth d : Nat} {lo hi : Option ByteArray} {dep : Nat} {kv : Value} {acc : List ByteArray} {W : World} (x : S43) (hi1 : i < r.length) (hx : r[i] = x)
    (hI : FormI w0 F An r.length cn order dep kv acc W) (hdep : dep = 0 ∨ dep = depth + d) (hd0 : 0 < depth) (hd1 : depth + d ≤ 1099511627776)
    (hsk : SortedK x.f1) (hrk : ∀ k ∈ x.f1, inR lo hi k) (hnk : x.f1.length ≤ 900) (L : Nat → List ByteArray) (hacc : (acc ++ if x.f0 then x.f1 else (List.range x.f2.length).flatMap L).length ≤ 1099511627776)
    (hwF : w0.heap.size ≤ F) (hleaf : x.f0 = true → d = 0)
    (hkid : x.f0 = false → 0 < x.f1.length ∧ x.f2.length = x.f1.length + 1 ∧ ∀ (m : Nat) (hm : m < x.f2.length) (dep' : Nat) (kv' : Value) (W' : World), FormI w0 F An r.length cn order dep' kv' (acc ++ (List.range m).flatMap L) W' → (dep' = 0 ∨ dep' = depth + d) →
      Calls Try.prog 38 #[.pointer (some ⟨F, 0, none⟩), .int .i64 x.f2[m], .int .i64 ((depth : Nat) + 1 : Int), bndV (if m = 0 then lo else x.f1[m - 1]?) (if m < x.f1.length then x.f1[m]? else hi)] W' fun e W'' => e = .returned (.tuple #[]) ∧ Keep9 F W' W'' ∧ ∃ kv'', FormI w0 F An r.length cn order (depth + d) kv'' (acc ++ (List.range (m + 1)).flatMap L) W'')
    (hfill : ∀ W' A1 c1 A2 c2, W'.cell? ⟨F, 1, none⟩ = some (.int .i64 (order : Nat)) → Calls Try.prog 54 #[.pointer (some ⟨F, 0, none⟩), .agg #[.bool x.f0, .slice A1 x.f1.length c1, .slice A2 x.f2.length c2], .bool (((i : Nat) : Int) == 0)] W' fun e w' => e = .returned (.bool true) ∧ Below W'.heap.size W' w') :
    Calls Try.prog 38 #[.pointer (some ⟨F, 0, none⟩), .int .i64 (i : Nat), .int .i64 (depth : Nat), bndV lo hi] W fun e W' => e = .returned (.tuple #[]) ∧ Keep9 F W W' ∧ ∃ kv', FormI w0 F An r.length cn order (depth + d) kv' (acc ++ if x.f0 then x.f1 else (List.range x.f2.length).flatMap L) W' := by
  have hC1 := Kd.C_below hr hI.2.2
  have p0 : (0 : Int) ≤ ((i : Nat) : Int) := by omega
  have p1 : ((i : Nat) : Int) < ((r.length : Nat) : Int) := by omega
  obtain ⟨ad, A1, c1, A2, c2, rfl, g0, g1, g2, l1, C1, l2, C2⟩ := PTreeRanks.at_T43 hr i p0 p1
  rw [rd43 r i hi1, hx, Int.toNat_natCast] at g0 g1 g2
  rw [rd43 r i hi1, hx] at l1 C1 l2 C2
  replace p0 := eq_true p0
  replace p1 := eq_true p1
  have hF := hI.1
  have hu43 := Try.underlying43
  have hu96 := Try.underlying96
  have hFlt : F < W.heap.size := blk_lt hF
  have hB1 : Below W.heap.size W (W.alloc (.cells #[.string (lo.getD ⟨#[]⟩), .string (hi.getD ⟨#[]⟩), .bool lo.isSome, .bool hi.isSome] 96)) := below_mk (Below.refl _ _) _
  have hI1 := hI.below hB1
  have y0 : (W.alloc (.cells #[.string (lo.getD ⟨#[]⟩), .string (hi.getD ⟨#[]⟩), .bool lo.isSome, .bool hi.isSome] 96)).cell? ⟨F, 0, none⟩ = some (.slice (some ad) r.length cn) := (blk_cell hI1.1 0).trans rfl
  have z0 := pw_cell_below hI1.2.2 g0
  have z1 := pw_cell_below hI1.2.2 g1
  have z2 := pw_cell_below hI1.2.2 g2
  have hI2 : NodeI w0 F (some ad) r.length cn order W.heap.size (W.heap.size + 1) lo hi x.f0 A1 x.f1.length c1 A2 x.f2.length c2 W dep kv acc ((W.alloc (.cells #[.string (lo.getD ⟨#[]⟩), .string (hi.getD ⟨#[]⟩), .bool lo.isSome, .bool hi.isSome] 96)).alloc (.cells #[.bool x.f0, .slice A1 x.f1.length c1, .slice A2 x.f2.length c2] 43)) := by
    refine ⟨?_, ?_, hI1.below (below_mk (Below.refl _ _) _), (Keep9.refl F W).below (below_mk (below_mk (Below.refl _ _) _) _), hFlt, Nat.lt_succ_self _⟩
    · exact (Below.heap_alloc _ _ _ (by simp)).trans (heap_alloc_new W _)
    · have e : W.heap.size + 1 = (W.alloc (.cells #[.string (lo.getD ⟨#[]⟩), .string (hi.getD ⟨#[]⟩), .bool lo.isSome, .bool hi.isSome] 96)).heap.size := by simp
      rw [e]
      exact heap_alloc_new _ _
  have e54 : ((W.alloc (.cells #[.string (lo.getD ⟨#[]⟩), .string (hi.getD ⟨#[]⟩), .bool lo.isSome, .bool hi.isSome] 96)).alloc (.cells #[.bool x.f0, .slice A1 x.f1.length c1, .slice A2 x.f2.length c2] 43)).cell? ⟨F, 1, none⟩ = some (.int .i64 (order : Nat)) := (blk_cell hI2.2.2.1.1 1).trans rfl
  have HF := Aside0.mk (hfill _ A1 c1 A2 c2 e54)
  have HI2 := Aside0.mk hI2
  clear g0 g1 g2 hC1 hF hB1 hI1 hI2 e54 hfill
  unfold bndV
  go_enter Try.func38, Try.ntmps38
  go_wp2_with fail
  refine HF.out.mono ?_
  rintro e w2 ⟨rfl, hb2⟩
  have HI3 := Aside0.mk (HI2.out.below hb2)
  clear HF HI2 hb2 y0 z0 z1 z2
  go_wp2
  go_loopw [9] (fun v9 W' => ∃ j : Nat, v9 = .int .i64 j ∧ j ≤ x.f1.length ∧ Aside0 (NodeI w0 F (some ad) r.length cn order W.heap.size (W.heap.size + 1) lo hi x.f0 A1 x.f1.length c1 A2 x.f2.length c2 W dep kv acc W')) (fun v9 _ => x.f1.length - (RowKit.intOf v9).toNat)
  case atStart => exact ⟨0, rfl, Nat.zero_le _, HI3⟩
  case round =>
    clear HI3
    obtain ⟨j, rfl, hj, HI3⟩ := hrel
    have n1 : wr.cell? ⟨W.heap.size + 1, 1, none⟩ = some (.slice A1 x.f1.length c1) := (blk_cell HI3.out.2.1 1).trans rfl
    by_cases hlt : j < x.f1.length
    · have b1 : decide (((j : Nat) : Int) < ((x.f1.length : Nat) : Int)) = true := decide_eq_true (by omega)
      have q1 : ((j : Nat) : Int) < ((x.f1.length : Nat) : Int) := by omega
      have q0 : (0 : Int) ≤ ((j : Nat) : Int) := by omega
      obtain ⟨ad1, rfl, hk1⟩ := Kd.at_string (Kd.C_below C1 HI3.out.2.2.1.2.2) j q0 q1
      have hk1 : wr.cell? (ad1.add j) = some (.string x.f1[j]) := by
        rw [rdOf_eq _ _ hlt] at hk1
        exact hk1
      have HH : Aside0 (∀ W', Calls Try.prog 55 #[.agg #[.string (lo.getD ⟨#[]⟩), .string (hi.getD ⟨#[]⟩), .bool lo.isSome, .bool hi.isSome], .string x.f1[j]] W' fun e w' => e = .returned (.bool true) ∧ Below W'.heap.size W' w') := ⟨fun W' => by
        have := holds_calls (lo.getD ⟨#[]⟩) (hi.getD ⟨#[]⟩) lo.isSome hi.isSome x.f1[j] W'
        rwa [inR_holds (hrk _ (List.getElem_mem hlt))] at this⟩
      have m0 : wr.cell? ⟨W.heap.size, 0, none⟩ = some (.string (lo.getD ⟨#[]⟩)) := (blk_cell HI3.out.1 0).trans rfl
      have m1 : wr.cell? ⟨W.heap.size, 1, none⟩ = some (.string (hi.getD ⟨#[]⟩)) := (blk_cell HI3.out.1 1).trans rfl
      have m2 : wr.cell? ⟨W.heap.size, 2, none⟩ = some (.bool lo.isSome) := (blk_cell HI3.out.1 2).trans rfl
      have m3 : wr.cell? ⟨W.heap.size, 3, none⟩ = some (.bool hi.isSome) := (blk_cell HI3.out.1 3).trans rfl
      replace q0 := eq_true q0
      replace q1 := eq_true q1
      by_cases hj0 : j = 0
      · have e0 : decide ((0 : Int) < ((j : Nat) : Int)) = false := decide_eq_false (by omega)
        have e0n : decide (0 < j) = false := decide_eq_false (by omega)
        clear hj0
        generalize x.f1[j] = k at *
        generalize W.heap.size = cb at *
        have HSK : Aside0 (∀ W', Below wr.heap.size wr W' → W'.cell? ⟨cb, 0, none⟩ = some (.string (lo.getD ⟨#[]⟩)) ∧ W'.cell? ⟨cb, 1, none⟩ = some (.string (hi.getD ⟨#[]⟩)) ∧ W'.cell? ⟨cb, 2, none⟩ = some (.bool lo.isSome) ∧ W'.cell? ⟨cb, 3, none⟩ = some (.bool hi.isSome) ∧ W'.cell? ⟨cb + 1, 1, none⟩ = some (.slice (some ad1) x.f1.length c1) ∧ W'.cell? (ad1.add j) = some (.string k) ∧ Below wr.heap.size wr W') :=
          ⟨fun W' hb => ⟨pw_cell_below hb m0, pw_cell_below hb m1, pw_cell_below hb m2, pw_cell_below hb m3, pw_cell_below hb n1, pw_cell_below hb hk1, hb⟩⟩
        clear m0 m1 m2 m3 hk1
        go_wp2
        refine wp_region_held_drew (S := fun W' => W'.cell? ⟨cb, 0, none⟩ = some (.string (lo.getD ⟨#[]⟩)) ∧ W'.cell? ⟨cb, 1, none⟩ = some (.string (hi.getD ⟨#[]⟩)) ∧ W'.cell? ⟨cb, 2, none⟩ = some (.bool lo.isSome) ∧ W'.cell? ⟨cb, 3, none⟩ = some (.bool hi.isSome) ∧ W'.cell? ⟨cb + 1, 1, none⟩ = some (.slice (some ad1) x.f1.length c1) ∧ W'.cell? (ad1.add j) = some (.string k) ∧ Below wr.heap.size wr W') (by kernel_rfl) (HSK.out _ (below_drew (Below.refl _ _))) (fun hHeld => ?_)
        refine wpAnyH_take (i := 0) (v := ?v0) rfl (by kernel_rfl) (by kernel_rfl) (by kernel_rfl) (fun _ _ _ h => h) (Or.inl ⟨by rfl, fun wq hSw => ?y0⟩) (by assumption) ?r0
        case y0 => ((try dsimp only at hSw); go_simp; try with_reducible rfl)
        try simp only [Act.put, List.setIfInBounds_toArray, List.set_cons_zero, List.set_cons_succ, List.getElem_toArray, List.getElem_cons_zero, List.getElem_cons_succ]
        refine wpAnyH_take (i := 1) (v := ?v1) rfl (by kernel_rfl) (by kernel_rfl) (by kernel_rfl) (fun _ _ _ h => h) (Or.inl ⟨by rfl, fun wq hSw => ?y1⟩) (by assumption) ?r1
        case y1 => ((try dsimp only at hSw); go_simp; try with_reducible rfl)
        try simp only [Act.put, List.setIfInBounds_toArray, List.set_cons_zero, List.set_cons_succ, List.getElem_toArray, List.getElem_cons_zero, List.getElem_cons_succ]
        refine wpAnyH_take (i := 2) (v := ?v2) rfl (by kernel_rfl) (by kernel_rfl) (by kernel_rfl) (fun _ _ _ h => h) (Or.inl ⟨by rfl, fun wq hSw => ?y2⟩) (by assumption) ?r2
        case y2 => ((try dsimp only at hSw); go_simp; try with_reducible rfl)
        try simp only [Act.put, List.setIfInBounds_toArray, List.set_cons_zero, List.set_cons_succ, List.getElem_toArray, List.getElem_cons_zero, List.getElem_cons_succ]
        refine wpAnyH_take (i := 3) (v := ?v3) rfl (by kernel_rfl) (by kernel_rfl) (by kernel_rfl) (fun _ _ _ h => h) (Or.inl ⟨by rfl, fun wq hSw => ?y3⟩) (by assumption) ?r3
        case y3 => ((try dsimp only at hSw); go_simp; try with_reducible rfl)
        try simp only [Act.put, List.setIfInBounds_toArray, List.set_cons_zero, List.set_cons_succ, List.getElem_toArray, List.getElem_cons_zero, List.getElem_cons_succ]
        refine wpAnyH_take (i := 4) (v := ?v4) rfl (by kernel_rfl) (by kernel_rfl) (by kernel_rfl) (fun _ _ _ h => h) (Or.inl ⟨by rfl, fun wq hSw => ?y4⟩) (by assumption) ?r4
        case y4 => ((try dsimp only at hSw); go_simp; try with_reducible rfl)
        try simp only [Act.put, List.setIfInBounds_toArray, List.set_cons_zero, List.set_cons_succ, List.getElem_toArray, List.getElem_cons_zero, List.getElem_cons_succ]
        refine wpAnyH_take (i := 5) (v := ?v5) rfl (by kernel_rfl) (by kernel_rfl) (by kernel_rfl) (fun _ _ _ h => h) (Or.inl ⟨by rfl, fun wq hSw => ?y5⟩) (by assumption) ?r5
        case y5 => ((try dsimp only at hSw); go_simp; try with_reducible rfl)
        try simp only [Act.put, List.setIfInBounds_toArray, List.set_cons_zero, List.set_cons_succ, List.getElem_toArray, List.getElem_cons_zero, List.getElem_cons_succ]
        refine wpAnyH_ready (rs := [6]) (by kernel_rfl) (by simp) ?_
        refine AllReadyH.cons (by rfl) (fun K hK => ?_) AllReadyH.nil
        go_wp2_with (go_at_call 55; refine (HH.out _).mono ?_; rintro e w4 ⟨rfl, hb1⟩)
        have hBn := below_go hb1 (And.right (And.right (And.right (And.right (And.right (And.right hHeld))))))
        clear hb1
        refine hK.out _ _ (HSK.out _ hBn) (fun hHeld2 => ?_)
        clear hK hHeld K
        try simp only [Act.put, List.setIfInBounds_toArray, List.set_cons_zero, List.set_cons_succ, List.getElem_toArray, List.getElem_cons_zero, List.getElem_cons_succ]
        refine wpAnyH_take (i := 7) (v := ?v7) rfl (by kernel_rfl) (by kernel_rfl) (by kernel_rfl) (fun _ _ _ h => h) (Or.inl ⟨by rfl, fun wq hSw => ?y7⟩) (by assumption) ?r7
        case y7 => ((try dsimp only at hSw); go_simp; try with_reducible rfl)
        try simp only [Act.put, List.setIfInBounds_toArray, List.set_cons_zero, List.set_cons_succ, List.getElem_toArray, List.getElem_cons_zero, List.getElem_cons_succ]
        refine wpAnyH_take (i := 8) (v := ?v8) rfl (by kernel_rfl) (by kernel_rfl) (by kernel_rfl) (fun _ _ _ h => h) (Or.inl ⟨by rfl, fun wq hSw => ?y8⟩) (by assumption) ?r8
        case y8 => ((try dsimp only at hSw); go_simp; try with_reducible rfl)
        try simp only [Act.put, List.setIfInBounds_toArray, List.set_cons_zero, List.set_cons_succ, List.getElem_toArray, List.getElem_cons_zero, List.getElem_cons_succ]
        refine wpAnyH_take (i := 9) (v := ?v9) rfl (by kernel_rfl) (by kernel_rfl) (by kernel_rfl) (fun _ _ _ h => h) (Or.inl ⟨by rfl, fun wq hSw => ?y9⟩) (by assumption) ?r9
        case y9 => ((try dsimp only at hSw); go_simp; try with_reducible rfl)
        try simp only [Act.put, List.setIfInBounds_toArray, List.set_cons_zero, List.set_cons_succ, List.getElem_toArray, List.getElem_cons_zero, List.getElem_cons_succ]
        refine wpAnyH_take (i := 10) (v := ?v10) rfl (by kernel_rfl) (by kernel_rfl) (by kernel_rfl) (fun _ _ _ h => h) (Or.inl ⟨by rfl, fun wq hSw => ?y10⟩) (by assumption) ?r10
        case y10 => ((try dsimp only at hSw); go_simp; try with_reducible rfl)
        try simp only [Act.put, List.setIfInBounds_toArray, List.set_cons_zero, List.set_cons_succ, List.getElem_toArray, List.getElem_cons_zero, List.getElem_cons_succ]
        refine wpAnyH_take (i := 11) (v := ?v11) rfl (by kernel_rfl) (by kernel_rfl) (by kernel_rfl) (fun _ _ _ h => h) (Or.inl ⟨by rfl, fun wq hSw => ?y11⟩) (by assumption) ?r11
        case y11 => ((try dsimp only at hSw); go_simp; try with_reducible rfl)
        try simp only [Act.put, List.setIfInBounds_toArray, List.set_cons_zero, List.set_cons_succ, List.getElem_toArray, List.getElem_cons_zero, List.getElem_cons_succ]
        refine wpAnyH_take (i := 12) (v := undef) rfl (by kernel_rfl) (by kernel_rfl) (by kernel_rfl) (fun _ _ _ h => h) (Or.inr ⟨by rfl, rfl⟩) (by assumption) ?_
        try simp only [Act.put, List.setIfInBounds_toArray, List.set_cons_zero, List.set_cons_succ, List.getElem_toArray, List.getElem_cons_zero, List.getElem_cons_succ]
        refine wpAnyH_take (i := 13) (v := undef) rfl (by kernel_rfl) (by kernel_rfl) (by kernel_rfl) (fun _ _ _ h => h) (Or.inr ⟨by rfl, rfl⟩) (by assumption) ?_
        try simp only [Act.put, List.setIfInBounds_toArray, List.set_cons_zero, List.set_cons_succ, List.getElem_toArray, List.getElem_cons_zero, List.getElem_cons_succ]
        refine wpAnyH_take (i := 14) (v := undef) rfl (by kernel_rfl) (by kernel_rfl) (by kernel_rfl) (fun _ _ _ h => h) (Or.inr ⟨by rfl, rfl⟩) (by assumption) ?_
        try simp only [Act.put, List.setIfInBounds_toArray, List.set_cons_zero, List.set_cons_succ, List.getElem_toArray, List.getElem_cons_zero, List.getElem_cons_succ]
        refine wpAnyH_take (i := 15) (v := undef) rfl (by kernel_rfl) (by kernel_rfl) (by kernel_rfl) (fun _ _ _ h => h) (Or.inr ⟨by rfl, rfl⟩) (by assumption) ?_
        try simp only [Act.put, List.setIfInBounds_toArray, List.set_cons_zero, List.set_cons_succ, List.getElem_toArray, List.getElem_cons_zero, List.getElem_cons_succ]
        refine wpAnyH_take (i := 16) (v := undef) rfl (by kernel_rfl) (by kernel_rfl) (by kernel_rfl) (fun _ _ _ h => h) (Or.inr ⟨by rfl, rfl⟩) (by assumption) ?_
        try simp only [Act.put, List.setIfInBounds_toArray, List.set_cons_zero, List.set_cons_succ, List.getElem_toArray, List.getElem_cons_zero, List.getElem_cons_succ]
        refine wpAnyH_take (i := 17) (v := undef) rfl (by kernel_rfl) (by kernel_rfl) (by kernel_rfl) (fun _ _ _ h => h) (Or.inr ⟨by rfl, rfl⟩) (by assumption) ?_
        try simp only [Act.put, List.setIfInBounds_toArray, List.set_cons_zero, List.set_cons_succ, List.getElem_toArray, List.getElem_cons_zero, List.getElem_cons_succ]
        refine wpAnyH_take (i := 18) (v := undef) rfl (by kernel_rfl) (by kernel_rfl) (by kernel_rfl) (fun _ _ _ h => h) (Or.inr ⟨by rfl, rfl⟩) (by assumption) ?_
        try simp only [Act.put, List.setIfInBounds_toArray, List.set_cons_zero, List.set_cons_succ, List.getElem_toArray, List.getElem_cons_zero, List.getElem_cons_succ]
        refine wpAnyH_take (i := 19) (v := undef) rfl (by kernel_rfl) (by kernel_rfl) (by kernel_rfl) (fun _ _ _ h => h) (Or.inr ⟨by rfl, rfl⟩) (by assumption) ?_
        try simp only [Act.put, List.setIfInBounds_toArray, List.set_cons_zero, List.set_cons_succ, List.getElem_toArray, List.getElem_cons_zero, List.getElem_cons_succ]
        refine wpAnyH_take (i := 20) (v := undef) rfl (by kernel_rfl) (by kernel_rfl) (by kernel_rfl) (fun _ _ _ h => h) (Or.inr ⟨by rfl, rfl⟩) (by assumption) ?_
        try simp only [Act.put, List.setIfInBounds_toArray, List.set_cons_zero, List.set_cons_succ, List.getElem_toArray, List.getElem_cons_zero, List.getElem_cons_succ]
        refine wpAnyH_take (i := 21) (v := undef) rfl (by kernel_rfl) (by kernel_rfl) (by kernel_rfl) (fun _ _ _ h => h) (Or.inr ⟨by rfl, rfl⟩) (by assumption) ?_
        try simp only [Act.put, List.setIfInBounds_toArray, List.set_cons_zero, List.set_cons_succ, List.getElem_toArray, List.getElem_cons_zero, List.getElem_cons_succ]
        refine wpAnyH_take (i := 22) (v := undef) rfl (by kernel_rfl) (by kernel_rfl) (by kernel_rfl) (fun _ _ _ h => h) (Or.inr ⟨by rfl, rfl⟩) (by assumption) ?_
        try simp only [Act.put, List.setIfInBounds_toArray, List.set_cons_zero, List.set_cons_succ, List.getElem_toArray, List.getElem_cons_zero, List.getElem_cons_succ]
        refine wpAnyH_take (i := 23) (v := undef) rfl (by kernel_rfl) (by kernel_rfl) (by kernel_rfl) (fun _ _ _ h => h) (Or.inr ⟨by rfl, rfl⟩) (by assumption) ?_
        try simp only [Act.put, List.setIfInBounds_toArray, List.set_cons_zero, List.set_cons_succ, List.getElem_toArray, List.getElem_cons_zero, List.getElem_cons_succ]
        refine wpAnyH_take (i := 24) (v := ?v24) rfl (by kernel_rfl) (by kernel_rfl) (by kernel_rfl) (fun _ _ _ h => h) (Or.inl ⟨by rfl, fun wq hSw => ?y24⟩) (by assumption) ?r24
        case y24 => ((try dsimp only at hSw); go_simp; try with_reducible rfl)
        try simp only [Act.put, List.setIfInBounds_toArray, List.set_cons_zero, List.set_cons_succ, List.getElem_toArray, List.getElem_cons_zero, List.getElem_cons_succ]
        refine wpAnyH_take (i := 25) (v := ?v25) rfl (by kernel_rfl) (by kernel_rfl) (by kernel_rfl) (fun _ _ _ h => h) (Or.inl ⟨by rfl, fun wq hSw => ?y25⟩) (by assumption) ?r25
        case y25 => ((try dsimp only at hSw); go_simp; try with_reducible rfl)
        try simp only [Act.put, List.setIfInBounds_toArray, List.set_cons_zero, List.set_cons_succ, List.getElem_toArray, List.getElem_cons_zero, List.getElem_cons_succ]
        refine wpAnyH_done (by kernel_rfl) ?_ _
        (try clear ew ew2)
        go_wp2
        go_roundw
        case measure => show x.f1.length - (j + 1) < x.f1.length - j; omega
        case rel => exact ⟨j + 1, by first | rfl | (simp; done) | (congr 1), hlt, ⟨HI3.out.below hBn⟩⟩
      · obtain ⟨m, hm⟩ : ∃ m, j = m + 1 := ⟨j - 1, by omega⟩
        have e0 : decide ((0 : Int) < ((j : Nat) : Int)) = true := decide_eq_true (by omega)
        have e0n : decide (0 < j) = true := decide_eq_true (by omega)
        have hm9 : m < x.f1.length := by omega
        have hlk : blt x.f1[m] x.f1[j] = true := List.pairwise_iff_getElem.1 hsk m j hm9 hlt (by omega)
        have hk2 : wr.cell? (ad1.add m) = some (.string x.f1[m]) := by
          obtain ⟨ad9, e9, hk9⟩ := Kd.at_string (Kd.C_below C1 HI3.out.2.2.1.2.2) ((m : Nat) : Int) (Int.natCast_nonneg m) (Int.ofNat_lt.2 hm9)
          cases e9
          rw [rdOf_eq _ _ hm9] at hk9
          exact hk9
        have r0 : ((0 : Int) ≤ ((m : Nat) : Int)) = True := eq_true (Int.natCast_nonneg m)
        have r1 : (((m : Nat) : Int) < ((x.f1.length : Nat) : Int)) = True := eq_true (Int.ofNat_lt.2 hm9)
        have hle : (Op.bytesLess x.f1[j].toList x.f1[m].toList || x.f1[j].toList == x.f1[m].toList) = false := by
          have h1 : Op.bytesLess x.f1[j].toList x.f1[m].toList = false := blt_asymm hlk
          rw [h1, beq_decide, Bool.false_or]
          apply decide_eq_false
          intro e
          rw [e, blt_irrefl] at hlk
          cases hlk
        have ew : wrap64 (((j : Nat) : Int) - 1) = (m : Int) := by
          rw [wrap_small _ (by omega) (by omega)]
          omega
        have ew2 : IntKind.i64.wrap (((j : Nat) : Int) - 1) = (m : Int) := (i64_w _).trans ew
        have hleq := PTreeRanks.run_leq
        clear hlk hm hj0
        generalize x.f1[j] = k at *
        generalize x.f1[m] = kp at *
        generalize W.heap.size = cb at *
        have HSK : Aside0 (∀ W', Below wr.heap.size wr W' → W'.cell? ⟨cb, 0, none⟩ = some (.string (lo.getD ⟨#[]⟩)) ∧ W'.cell? ⟨cb, 1, none⟩ = some (.string (hi.getD ⟨#[]⟩)) ∧ W'.cell? ⟨cb, 2, none⟩ = some (.bool lo.isSome) ∧ W'.cell? ⟨cb, 3, none⟩ = some (.bool hi.isSome) ∧ W'.cell? ⟨cb + 1, 1, none⟩ = some (.slice (some ad1) x.f1.length c1) ∧ W'.cell? (ad1.add j) = some (.string k) ∧ W'.cell? (ad1.add m) = some (.string kp) ∧ Below wr.heap.size wr W') :=
          ⟨fun W' hb => ⟨pw_cell_below hb m0, pw_cell_below hb m1, pw_cell_below hb m2, pw_cell_below hb m3, pw_cell_below hb n1, pw_cell_below hb hk1, pw_cell_below hb hk2, hb⟩⟩
        clear m0 m1 m2 m3 hk1
        go_wp2
        refine wp_region_held_drew (S := fun W' => W'.cell? ⟨cb, 0, none⟩ = some (.string (lo.getD ⟨#[]⟩)) ∧ W'.cell? ⟨cb, 1, none⟩ = some (.string (hi.getD ⟨#[]⟩)) ∧ W'.cell? ⟨cb, 2, none⟩ = some (.bool lo.isSome) ∧ W'.cell? ⟨cb, 3, none⟩ = some (.bool hi.isSome) ∧ W'.cell? ⟨cb + 1, 1, none⟩ = some (.slice (some ad1) x.f1.length c1) ∧ W'.cell? (ad1.add j) = some (.string k) ∧ W'.cell? (ad1.add m) = some (.string kp) ∧ Below wr.heap.size wr W') (by kernel_rfl) (HSK.out _ (below_drew (Below.refl _ _))) (fun hHeld => ?_)
        refine wpAnyH_take (i := 0) (v := ?v0b) rfl (by kernel_rfl) (by kernel_rfl) (by kernel_rfl) (fun _ _ _ h => h) (Or.inl ⟨by rfl, fun wq hSw => ?y0b⟩) (by assumption) ?r0b
        case y0b => ((try dsimp only at hSw); go_simp; try with_reducible rfl)
        try simp only [Act.put, List.setIfInBounds_toArray, List.set_cons_zero, List.set_cons_succ, List.getElem_toArray, List.getElem_cons_zero, List.getElem_cons_succ]
        refine wpAnyH_take (i := 1) (v := ?v1b) rfl (by kernel_rfl) (by kernel_rfl) (by kernel_rfl) (fun _ _ _ h => h) (Or.inl ⟨by rfl, fun wq hSw => ?y1b⟩) (by assumption) ?r1b
        case y1b => ((try dsimp only at hSw); go_simp; try with_reducible rfl)
        try simp only [Act.put, List.setIfInBounds_toArray, List.set_cons_zero, List.set_cons_succ, List.getElem_toArray, List.getElem_cons_zero, List.getElem_cons_succ]
        refine wpAnyH_take (i := 2) (v := ?v2b) rfl (by kernel_rfl) (by kernel_rfl) (by kernel_rfl) (fun _ _ _ h => h) (Or.inl ⟨by rfl, fun wq hSw => ?y2b⟩) (by assumption) ?r2b
        case y2b => ((try dsimp only at hSw); go_simp; try with_reducible rfl)
        try simp only [Act.put, List.setIfInBounds_toArray, List.set_cons_zero, List.set_cons_succ, List.getElem_toArray, List.getElem_cons_zero, List.getElem_cons_succ]
        refine wpAnyH_take (i := 3) (v := ?v3b) rfl (by kernel_rfl) (by kernel_rfl) (by kernel_rfl) (fun _ _ _ h => h) (Or.inl ⟨by rfl, fun wq hSw => ?y3b⟩) (by assumption) ?r3b
        case y3b => ((try dsimp only at hSw); go_simp; try with_reducible rfl)
        try simp only [Act.put, List.setIfInBounds_toArray, List.set_cons_zero, List.set_cons_succ, List.getElem_toArray, List.getElem_cons_zero, List.getElem_cons_succ]
        refine wpAnyH_take (i := 4) (v := ?v4b) rfl (by kernel_rfl) (by kernel_rfl) (by kernel_rfl) (fun _ _ _ h => h) (Or.inl ⟨by rfl, fun wq hSw => ?y4b⟩) (by assumption) ?r4b
        case y4b => ((try dsimp only at hSw); go_simp; try with_reducible rfl)
        try simp only [Act.put, List.setIfInBounds_toArray, List.set_cons_zero, List.set_cons_succ, List.getElem_toArray, List.getElem_cons_zero, List.getElem_cons_succ]
        refine wpAnyH_take (i := 5) (v := ?v5b) rfl (by kernel_rfl) (by kernel_rfl) (by kernel_rfl) (fun _ _ _ h => h) (Or.inl ⟨by rfl, fun wq hSw => ?y5b⟩) (by assumption) ?r5b
        case y5b => ((try dsimp only at hSw); go_simp; try with_reducible rfl)
        try simp only [Act.put, List.setIfInBounds_toArray, List.set_cons_zero, List.set_cons_succ, List.getElem_toArray, List.getElem_cons_zero, List.getElem_cons_succ]
        refine wpAnyH_ready (rs := [6]) (by kernel_rfl) (by simp) ?_
        refine AllReadyH.cons (by rfl) (fun K hK => ?_) AllReadyH.nil
        go_wp2_with (go_at_call 55; refine (HH.out _).mono ?_; rintro e w4 ⟨rfl, hb1⟩)
        have hBn := below_go hb1 (And.right (And.right (And.right (And.right (And.right (And.right (And.right hHeld)))))))
        clear hb1
        refine hK.out _ _ (HSK.out _ hBn) (fun hHeld2 => ?_)
        clear hK hHeld K
        try simp only [Act.put, List.setIfInBounds_toArray, List.set_cons_zero, List.set_cons_succ, List.getElem_toArray, List.getElem_cons_zero, List.getElem_cons_succ]
        refine wpAnyH_take (i := 7) (v := ?v7b) rfl (by kernel_rfl) (by kernel_rfl) (by kernel_rfl) (fun _ _ _ h => h) (Or.inl ⟨by rfl, fun wq hSw => ?y7b⟩) (by assumption) ?r7b
        case y7b => ((try dsimp only at hSw); go_simp; try with_reducible rfl)
        try simp only [Act.put, List.setIfInBounds_toArray, List.set_cons_zero, List.set_cons_succ, List.getElem_toArray, List.getElem_cons_zero, List.getElem_cons_succ]
        refine wpAnyH_take (i := 8) (v := ?v8b) rfl (by kernel_rfl) (by kernel_rfl) (by kernel_rfl) (fun _ _ _ h => h) (Or.inl ⟨by rfl, fun wq hSw => ?y8b⟩) (by assumption) ?r8b
        case y8b => ((try dsimp only at hSw); go_simp; try with_reducible rfl)
        try simp only [Act.put, List.setIfInBounds_toArray, List.set_cons_zero, List.set_cons_succ, List.getElem_toArray, List.getElem_cons_zero, List.getElem_cons_succ]
        refine wpAnyH_take (i := 9) (v := ?v9b) rfl (by kernel_rfl) (by kernel_rfl) (by kernel_rfl) (fun _ _ _ h => h) (Or.inl ⟨by rfl, fun wq hSw => ?y9b⟩) (by assumption) ?r9b
        case y9b => ((try dsimp only at hSw); go_simp; try with_reducible rfl)
        try simp only [Act.put, List.setIfInBounds_toArray, List.set_cons_zero, List.set_cons_succ, List.getElem_toArray, List.getElem_cons_zero, List.getElem_cons_succ]
        refine wpAnyH_take (i := 10) (v := ?v10b) rfl (by kernel_rfl) (by kernel_rfl) (by kernel_rfl) (fun _ _ _ h => h) (Or.inl ⟨by rfl, fun wq hSw => ?y10b⟩) (by assumption) ?r10b
        case y10b => ((try dsimp only at hSw); go_simp; try with_reducible rfl)
        try simp only [Act.put, List.setIfInBounds_toArray, List.set_cons_zero, List.set_cons_succ, List.getElem_toArray, List.getElem_cons_zero, List.getElem_cons_succ]
        refine wpAnyH_take (i := 11) (v := ?v11b) rfl (by kernel_rfl) (by kernel_rfl) (by kernel_rfl) (fun _ _ _ h => h) (Or.inl ⟨by rfl, fun wq hSw => ?y11b⟩) (by assumption) ?r11b
        case y11b => ((try dsimp only at hSw); go_simp; try with_reducible rfl)
        try simp only [Act.put, List.setIfInBounds_toArray, List.set_cons_zero, List.set_cons_succ, List.getElem_toArray, List.getElem_cons_zero, List.getElem_cons_succ]
        refine wpAnyH_take (i := 12) (v := ?v12b) rfl (by kernel_rfl) (by kernel_rfl) (by kernel_rfl) (fun _ _ _ h => h) (Or.inl ⟨by rfl, fun wq hSw => ?y12b⟩) (by assumption) ?r12b
        case y12b => ((try dsimp only at hSw); go_simp; try with_reducible rfl)
        try simp only [Act.put, List.setIfInBounds_toArray, List.set_cons_zero, List.set_cons_succ, List.getElem_toArray, List.getElem_cons_zero, List.getElem_cons_succ]
        refine wpAnyH_take (i := 13) (v := ?v13b) rfl (by kernel_rfl) (by kernel_rfl) (by kernel_rfl) (fun _ _ _ h => h) (Or.inl ⟨by rfl, fun wq hSw => ?y13b⟩) (by assumption) ?r13b
        case y13b => ((try dsimp only at hSw); go_simp; try with_reducible rfl)
        try simp only [Act.put, List.setIfInBounds_toArray, List.set_cons_zero, List.set_cons_succ, List.getElem_toArray, List.getElem_cons_zero, List.getElem_cons_succ]
        refine wpAnyH_take (i := 14) (v := ?v14b) rfl (by kernel_rfl) (by kernel_rfl) (by kernel_rfl) (fun _ _ _ h => h) (Or.inl ⟨by rfl, fun wq hSw => ?y14b⟩) (by assumption) ?r14b
        case y14b => ((try dsimp only at hSw); go_simp; try with_reducible rfl)
        try simp only [Act.put, List.setIfInBounds_toArray, List.set_cons_zero, List.set_cons_succ, List.getElem_toArray, List.getElem_cons_zero, List.getElem_cons_succ]
        refine wpAnyH_take (i := 15) (v := ?v15b) rfl (by kernel_rfl) (by kernel_rfl) (by kernel_rfl) (fun _ _ _ h => h) (Or.inl ⟨by rfl, fun wq hSw => ?y15b⟩) (by assumption) ?r15b
        case y15b => ((try dsimp only at hSw); go_simp; try with_reducible rfl)
        try simp only [Act.put, List.setIfInBounds_toArray, List.set_cons_zero, List.set_cons_succ, List.getElem_toArray, List.getElem_cons_zero, List.getElem_cons_succ]
        refine wpAnyH_take (i := 16) (v := ?v16b) rfl (by kernel_rfl) (by kernel_rfl) (by kernel_rfl) (fun _ _ _ h => h) (Or.inl ⟨by rfl, fun wq hSw => ?y16b⟩) (by assumption) ?r16b
        case y16b => ((try dsimp only at hSw); go_simp; try with_reducible rfl)
        try simp only [Act.put, List.setIfInBounds_toArray, List.set_cons_zero, List.set_cons_succ, List.getElem_toArray, List.getElem_cons_zero, List.getElem_cons_succ]
        refine wpAnyH_take (i := 17) (v := ?v17b) rfl (by kernel_rfl) (by kernel_rfl) (by kernel_rfl) (fun _ _ _ h => h) (Or.inl ⟨by rfl, fun wq hSw => ?y17b⟩) (by assumption) ?r17b
        case y17b => ((try dsimp only at hSw); go_simp; try with_reducible rfl)
        try simp only [Act.put, List.setIfInBounds_toArray, List.set_cons_zero, List.set_cons_succ, List.getElem_toArray, List.getElem_cons_zero, List.getElem_cons_succ]
        refine wpAnyH_take (i := 18) (v := ?v18b) rfl (by kernel_rfl) (by kernel_rfl) (by kernel_rfl) (fun _ _ _ h => h) (Or.inl ⟨by rfl, fun wq hSw => ?y18b⟩) (by assumption) ?r18b
        case y18b => ((try dsimp only at hSw); go_simp; try with_reducible rfl)
        try simp only [Act.put, List.setIfInBounds_toArray, List.set_cons_zero, List.set_cons_succ, List.getElem_toArray, List.getElem_cons_zero, List.getElem_cons_succ]
        refine wpAnyH_take (i := 19) (v := ?v19b) rfl (by kernel_rfl) (by kernel_rfl) (by kernel_rfl) (fun _ _ _ h => h) (Or.inl ⟨by rfl, fun wq hSw => ?y19b⟩) (by assumption) ?r19b
        case y19b => ((try dsimp only at hSw); go_simp; try with_reducible rfl)
        try simp only [Act.put, List.setIfInBounds_toArray, List.set_cons_zero, List.set_cons_succ, List.getElem_toArray, List.getElem_cons_zero, List.getElem_cons_succ]
        refine wpAnyH_take (i := 20) (v := ?v20b) rfl (by kernel_rfl) (by kernel_rfl) (by kernel_rfl) (fun _ _ _ h => h) (Or.inl ⟨by rfl, fun wq hSw => ?y20b⟩) (by assumption) ?r20b
        case y20b => ((try dsimp only at hSw); go_simp; try with_reducible rfl)
        try simp only [Act.put, List.setIfInBounds_toArray, List.set_cons_zero, List.set_cons_succ, List.getElem_toArray, List.getElem_cons_zero, List.getElem_cons_succ]
        refine wpAnyH_take (i := 21) (v := ?v21b) rfl (by kernel_rfl) (by kernel_rfl) (by kernel_rfl) (fun _ _ _ h => h) (Or.inl ⟨by rfl, fun wq hSw => ?y21b⟩) (by assumption) ?r21b
        case y21b => ((try dsimp only at hSw); go_simp; try with_reducible rfl)
        try simp only [Act.put, List.setIfInBounds_toArray, List.set_cons_zero, List.set_cons_succ, List.getElem_toArray, List.getElem_cons_zero, List.getElem_cons_succ]
        refine wpAnyH_take (i := 22) (v := ?v22b) rfl (by kernel_rfl) (by kernel_rfl) (by kernel_rfl) (fun _ _ _ h => h) (Or.inl ⟨by rfl, fun wq hSw => ?y22b⟩) (by assumption) ?r22b
        case y22b => ((try dsimp only at hSw); go_simp; try with_reducible rfl)
        try simp only [Act.put, List.setIfInBounds_toArray, List.set_cons_zero, List.set_cons_succ, List.getElem_toArray, List.getElem_cons_zero, List.getElem_cons_succ]
        refine wpAnyH_take (i := 23) (v := ?v23b) rfl (by kernel_rfl) (by kernel_rfl) (by kernel_rfl) (fun _ _ _ h => h) (Or.inl ⟨by rfl, fun wq hSw => ?y23b⟩) (by assumption) ?r23b
        case y23b => ((try dsimp only at hSw); go_simp; try with_reducible rfl)
        try simp only [Act.put, List.setIfInBounds_toArray, List.set_cons_zero, List.set_cons_succ, List.getElem_toArray, List.getElem_cons_zero, List.getElem_cons_succ]
        refine wpAnyH_take (i := 24) (v := ?v24b) rfl (by kernel_rfl) (by kernel_rfl) (by kernel_rfl) (fun _ _ _ h => h) (Or.inl ⟨by rfl, fun wq hSw => ?y24b⟩) (by assumption) ?r24b
        case y24b => ((try dsimp only at hSw); go_simp; try with_reducible rfl)
        try simp only [Act.put, List.setIfInBounds_toArray, List.set_cons_zero, List.set_cons_succ, List.getElem_toArray, List.getElem_cons_zero, List.getElem_cons_succ]
        refine wpAnyH_take (i := 25) (v := ?v25b) rfl (by kernel_rfl) (by kernel_rfl) (by kernel_rfl) (fun _ _ _ h => h) (Or.inl ⟨by rfl, fun wq hSw => ?y25b⟩) (by assumption) ?r25b
        case y25b => ((try dsimp only at hSw); go_simp; try with_reducible rfl)
        try simp only [Act.put, List.setIfInBounds_toArray, List.set_cons_zero, List.set_cons_succ, List.getElem_toArray, List.getElem_cons_zero, List.getElem_cons_succ]
        refine wpAnyH_done (by kernel_rfl) ?_ _
        (try clear ew ew2)
        go_wp2
        go_roundw
        case measure => show x.f1.length - (j + 1) < x.f1.length - j; omega
        case rel => exact ⟨j + 1, by first | rfl | (simp; done) | (congr 1), hlt, ⟨HI3.out.below hBn⟩⟩
    · have b1 : decide (((j : Nat) : Int) < ((x.f1.length : Nat) : Int)) = false := decide_eq_false (by omega)
      obtain rfl : j = x.f1.length := by omega
      have n0 : wr.cell? ⟨W.heap.size + 1, 0, none⟩ = some (.bool x.f0) := (blk_cell HI3.out.2.1 0).trans rfl
      have f2 : wr.cell? ⟨F, 2, none⟩ = some (.int .i64 (dep : Nat)) := (blk_cell HI3.out.2.2.1.1 2).trans rfl
      have ff2 : wr.frozen? ⟨F, 2, none⟩ = false := blk_frozen HI3.out.2.2.1.1 2
      obtain ⟨lf, keys, kids⟩ := x
      cases lf with
      | true =>
        rcases hdep with h0 | h0
        · have e1 : decide (((dep : Nat) : Int) = 0) = true := decide_eq_true (by omega)
          have e2 : (((dep : Nat) : Int) == 0) = true := by rw [h0]; rfl
          clear h0
          obtain rfl : d = 0 := hleaf rfl
          have hg1 : wr.grownBy (wr.setCell ⟨F, 2, none⟩ (.int .i64 (depth : Nat))) (some F) := gb_set (grownBy_refl _ _) _ _
          have HN : Aside0 (NodeI w0 F (some ad) r.length cn order W.heap.size (W.heap.size + 1) lo hi true A1 keys.length c1 A2 kids.length c2 W depth kv acc (wr.setCell ⟨F, 2, none⟩ (.int .i64 (depth : Nat)))) := by
            obtain ⟨a1, a2, ⟨a3, a4, a5⟩, a6, a7, a8⟩ := HI3.out
            refine ⟨(hg1.block _ (blk_lt a1) (fun e => by injection e with e; omega)).trans a1, (hg1.block _ (blk_lt a2) (fun e => by injection e with e; omega)).trans a2, ⟨(blk_set a3 2 _).trans rfl, Kd.R_grown a4 hg1 (fun k hk e => by injection e with e; exact hk e), ?_⟩, a6.cell hg1, a7, a8⟩
            exact a5.trans (grownBy_below hg1 a5.size (fun k e => by injection e with e; omega))
          clear HI3 hg1
          go_wp2
          clear f2 ff2 n1 n0
          generalize wr.setCell ⟨F, 2, none⟩ (.int .i64 (depth : Nat)) = Wd at *
          obtain ⟨Av, cv, rfl, hcv, _⟩ := Kd.R_reads HN.out.2.2.1.2.1
          have g3 : Wd.cell? ⟨F, 3, none⟩ = some (.slice Av acc.length cv) := (blk_cell HN.out.2.2.1.1 3).trans rfl
          have gf3 : Wd.frozen? ⟨F, 3, none⟩ = false := blk_frozen HN.out.2.2.1.1 3
          have n1 : Wd.cell? ⟨W.heap.size + 1, 1, none⟩ = some (.slice A1 keys.length c1) := (blk_cell HN.out.2.1 1).trans rfl
          have HND := Aside0.mk (HN.out.below (below_drew (Below.refl _ _)))
          have HRV := Aside0.mk HND.out.2.2.1.2.1
          have HRK : Aside0 (ReadsRow (Kd.string.K Wd.drew) 1 Wd.drew A1 keys.length keys) := ⟨Kd.C_below C1 HND.out.2.2.1.2.2⟩
          have HAC : Aside0 ((acc.length + keys.length) * 16 ≤ 140737488355328) := ⟨by have h := hacc; rw [List.length_append] at h; have h2 : acc.length + keys.length ≤ 1099511627776 := h; omega⟩
          have HBW := Aside0.mk HND.out.2.2.1.2.2
          have HFR : Aside0 (∀ k, Wd.drew.heap.size ≤ k → k ≠ F) := ⟨fun k hk => by have := blk_lt HND.out.2.2.1.1; omega⟩
          have HOV : Aside0 (some F ≠ (Value.slice Av acc.length cv).ownBlock) := ⟨fun e => HRV.out.1 F e.symm rfl⟩
          have HFH := Aside0.mk HND.out.2.2.1.1
          clear hacc
          go_region_law ((refine Kd.R_append_rows_step Kd.string (w0 := w0) w0.heap.size (by rfl) (.tmp 88) (.tmp 90) 22 9 (.string ⟨#[]⟩) 16 rfl Try.underlying22 info9 rfl (by decide) (by decide) (.slice Av acc.length cv) acc keys A1 keys.length c1 (fun k => k ≠ F) (fun _ => False) (by simp [Act.eval, Act.put]) (by simp [Act.eval, Act.put]) HRV.out HRK.out (fun _ _ h => h) (fun _ h => h.elim) HFR.out HBW.out HBW.out.size HAC.out ?_; intro v1 w3 ho3 hb3 hg3 hat3; obtain ⟨A5, c5, e5, _, _⟩ := Kd.R_reads ho3; subst e5; have hf3 := (hg3.block F (blk_lt HFH.out) HOV.out).trans HFH.out; have t3 : w3.cell? ⟨F, 3, none⟩ = some (.slice Av acc.length cv) := (blk_cell hf3 3).trans rfl; have tf3 : w3.frozen? ⟨F, 3, none⟩ = false := blk_frozen hf3 3; have HO3 := Aside0.mk ho3; have HB3 := Aside0.mk hb3; have HG3 := Aside0.mk hg3; have HF3 := Aside0.mk hf3; clear ho3 hb3 hg3 hat3 hf3))
          all_goals
            have HO4 := HO3.out
            rw [List.length_append] at HO4
            have hg9 : w3.grownBy (w3.setCell ⟨F, 3, none⟩ (.slice A5 (acc.length + keys.length) c5)) (some F) := gb_set (grownBy_refl _ _) _ _
            have HFIN : Aside0 (Keep9 F W (w3.setCell ⟨F, 3, none⟩ (.slice A5 (acc.length + keys.length) c5)) ∧ FormI w0 F (some ad) r.length cn order depth (.slice A5 (acc.length + keys.length) c5) (acc ++ keys) (w3.setCell ⟨F, 3, none⟩ (.slice A5 (acc.length + keys.length) c5))) := by
              obtain ⟨inner, hin⟩ := Kd.R_own HRV.out
              refine ⟨(HND.out.2.2.2.1.row hin HG3.out).cell hg9, (blk_set HF3.out 3 _).trans rfl, Kd.R_grown HO4 hg9 (fun k hk e => by injection e with e; exact hk e), ?_⟩
              exact HB3.out.trans (grownBy_below hg9 HB3.out.size (fun k e => by injection e with e; omega))
            clear hg9 HO4
            go_wp2
            refine bodyPost_ret (v := .tuple #[]) (by simp [results, Try.results38, go_sem]) rfl ?_
            exact ⟨rfl, HFIN.out.1, _, HFIN.out.2⟩
        · obtain rfl : d = 0 := hleaf rfl
          obtain rfl : dep = depth := h0
          have e2 : (((dep : Nat) : Int) == 0) = false := by
            apply Bool.eq_false_iff.2
            intro e
            have e : ((dep : Nat) : Int) = 0 := by simpa using e
            omega
          have e3 : decide (((dep : Nat) : Int) = 0) = false := decide_eq_false (by omega)
          have e4 : dep ≠ 0 := by omega
          have HN := HI3
          clear HI3
          go_wp2
          clear f2 ff2 n1 n0
          generalize wr = Wd at *
          obtain ⟨Av, cv, rfl, hcv, _⟩ := Kd.R_reads HN.out.2.2.1.2.1
          have g3 : Wd.cell? ⟨F, 3, none⟩ = some (.slice Av acc.length cv) := (blk_cell HN.out.2.2.1.1 3).trans rfl
          have gf3 : Wd.frozen? ⟨F, 3, none⟩ = false := blk_frozen HN.out.2.2.1.1 3
          have n1 : Wd.cell? ⟨W.heap.size + 1, 1, none⟩ = some (.slice A1 keys.length c1) := (blk_cell HN.out.2.1 1).trans rfl
          have HND := Aside0.mk (HN.out.below (below_drew (Below.refl _ _)))
          have HRV := Aside0.mk HND.out.2.2.1.2.1
          have HRK : Aside0 (ReadsRow (Kd.string.K Wd.drew) 1 Wd.drew A1 keys.length keys) := ⟨Kd.C_below C1 HND.out.2.2.1.2.2⟩
          have HAC : Aside0 ((acc.length + keys.length) * 16 ≤ 140737488355328) := ⟨by have h := hacc; rw [List.length_append] at h; have h2 : acc.length + keys.length ≤ 1099511627776 := h; omega⟩
          have HBW := Aside0.mk HND.out.2.2.1.2.2
          have HFR : Aside0 (∀ k, Wd.drew.heap.size ≤ k → k ≠ F) := ⟨fun k hk => by have := blk_lt HND.out.2.2.1.1; omega⟩
          have HOV : Aside0 (some F ≠ (Value.slice Av acc.length cv).ownBlock) := ⟨fun e => HRV.out.1 F e.symm rfl⟩
          have HFH := Aside0.mk HND.out.2.2.1.1
          clear hacc
          go_region_law ((refine Kd.R_append_rows_step Kd.string (w0 := w0) w0.heap.size (by rfl) (.tmp 88) (.tmp 90) 22 9 (.string ⟨#[]⟩) 16 rfl Try.underlying22 info9 rfl (by decide) (by decide) (.slice Av acc.length cv) acc keys A1 keys.length c1 (fun k => k ≠ F) (fun _ => False) (by simp [Act.eval, Act.put]) (by simp [Act.eval, Act.put]) HRV.out HRK.out (fun _ _ h => h) (fun _ h => h.elim) HFR.out HBW.out HBW.out.size HAC.out ?_; intro v1 w3 ho3 hb3 hg3 hat3; obtain ⟨A5, c5, e5, _, _⟩ := Kd.R_reads ho3; subst e5; have hf3 := (hg3.block F (blk_lt HFH.out) HOV.out).trans HFH.out; have t3 : w3.cell? ⟨F, 3, none⟩ = some (.slice Av acc.length cv) := (blk_cell hf3 3).trans rfl; have tf3 : w3.frozen? ⟨F, 3, none⟩ = false := blk_frozen hf3 3; have HO3 := Aside0.mk ho3; have HB3 := Aside0.mk hb3; have HG3 := Aside0.mk hg3; have HF3 := Aside0.mk hf3; clear ho3 hb3 hg3 hat3 hf3))
          all_goals
            have HO4 := HO3.out
            rw [List.length_append] at HO4
            have hg9 : w3.grownBy (w3.setCell ⟨F, 3, none⟩ (.slice A5 (acc.length + keys.length) c5)) (some F) := gb_set (grownBy_refl _ _) _ _
            have HFIN : Aside0 (Keep9 F W (w3.setCell ⟨F, 3, none⟩ (.slice A5 (acc.length + keys.length) c5)) ∧ FormI w0 F (some ad) r.length cn order dep (.slice A5 (acc.length + keys.length) c5) (acc ++ keys) (w3.setCell ⟨F, 3, none⟩ (.slice A5 (acc.length + keys.length) c5))) := by
              obtain ⟨inner, hin⟩ := Kd.R_own HRV.out
              refine ⟨(HND.out.2.2.2.1.row hin HG3.out).cell hg9, (blk_set HF3.out 3 _).trans rfl, Kd.R_grown HO4 hg9 (fun k hk e => by injection e with e; exact hk e), ?_⟩
              exact HB3.out.trans (grownBy_below hg9 HB3.out.size (fun k e => by injection e with e; omega))
            clear hg9 HO4
            go_wp2
            refine bodyPost_ret (v := .tuple #[]) (by simp [results, Try.results38, go_sem]) rfl ?_
            exact ⟨rfl, HFIN.out.1, _, HFIN.out.2⟩
      | false =>
        obtain ⟨hk0, hk1, hk⟩ := hkid rfl
        have HK := Aside0.mk hk
        have hcnt : kids.length ≤ 901 := by have h9 : keys.length ≤ 900 := hnk; have h8 : kids.length = keys.length + 1 := hk1; omega
        have HD := Aside0.mk hdep
        have HK1 := Aside0.mk hk1
        have HK0 := Aside0.mk hk0
        replace hk0 : 0 < kids.length := by have h8 : kids.length = keys.length + 1 := hk1; omega
        clear hk f2 ff2 hkid hleaf hdep hacc hk1
        go_wp2
        go_loopw [10] (fun v10 W' => ∃ (m dep' : Nat) (kv' : Value), v10 = .int .i64 m ∧ m ≤ kids.length ∧ Aside0 (NodeI w0 F (some ad) r.length cn order W.heap.size (W.heap.size + 1) lo hi false A1 keys.length c1 A2 kids.length c2 W dep' kv' (acc ++ (List.range m).flatMap L) W') ∧ Aside0 ((dep' = 0 ∨ dep' = depth + d) ∧ (0 < m → dep' = depth + d))) (fun v10 _ => kids.length - (RowKit.intOf v10).toNat)
        case atStart => exact ⟨0, dep, kv, rfl, Nat.zero_le _, ⟨by rw [List.range_zero, List.flatMap_nil, List.append_nil]; exact HI3.out⟩, ⟨HD.out, fun h => absurd h (Nat.lt_irrefl 0)⟩⟩
        case round =>
          clear HI3 HD n1 n0
          obtain ⟨m, dep', kv', rfl, hm, HI3, HD⟩ := hrel
          have n1 : wr.cell? ⟨W.heap.size + 1, 1, none⟩ = some (.slice A1 keys.length c1) := (blk_cell HI3.out.2.1 1).trans rfl
          have n2 : wr.cell? ⟨W.heap.size + 1, 2, none⟩ = some (.slice A2 kids.length c2) := (blk_cell HI3.out.2.1 2).trans rfl
          have f5 : wr.cell? ⟨F, 5, none⟩ = some (.bool true) := (blk_cell HI3.out.2.2.1.1 5).trans rfl
          by_cases hlt : m < kids.length
          · have b2 : decide (((m : Nat) : Int) < ((kids.length : Nat) : Int)) = true := decide_eq_true (by omega)
            have q1 : (((m : Nat) : Int) < ((kids.length : Nat) : Int)) = True := eq_true (by omega)
            have q0 : ((0 : Int) ≤ ((m : Nat) : Int)) = True := eq_true (by omega)
            obtain ⟨ad2, rfl, hc2⟩ := Kd.at_int (Kd.C_below C2 HI3.out.2.2.1.2.2) m (by omega) (by omega)
            have m0 : wr.cell? ⟨W.heap.size, 0, none⟩ = some (.string (lo.getD ⟨#[]⟩)) := (blk_cell HI3.out.1 0).trans rfl
            have m1 : wr.cell? ⟨W.heap.size, 1, none⟩ = some (.string (hi.getD ⟨#[]⟩)) := (blk_cell HI3.out.1 1).trans rfl
            have m2 : wr.cell? ⟨W.heap.size, 2, none⟩ = some (.bool lo.isSome) := (blk_cell HI3.out.1 2).trans rfl
            have m3 : wr.cell? ⟨W.heap.size, 3, none⟩ = some (.bool hi.isSome) := (blk_cell HI3.out.1 3).trans rfl
            have hc2 : wr.cell? (ad2.add m) = some (.int .i64 kids[m]) := by
              have e : rd kids ((m : Nat) : Int) = kids[m] := by
                unfold rd
                rw [Int.toNat_natCast, List.getD_eq_getElem?_getD, List.getElem?_eq_getElem hlt]
                rfl
              rw [e] at hc2
              exact hc2
            have HKM := Aside0.mk (HK.out m hlt)
            have m0' : True := trivial
            have w2a : ∀ c : Array Value, (wr.alloc (.cells c 96)).cell? ⟨W.heap.size + 1, 2, none⟩ = some (.slice (some ad2) kids.length c2) := fun c => pw_cell_below (below_mk (Below.refl _ _) _) n2
            have k2a : ∀ c : Array Value, (wr.alloc (.cells c 96)).cell? (ad2.add m) = some (.int .i64 kids[m]) := fun c => pw_cell_below (below_mk (Below.refl _ _) _) hc2
            by_cases hmk : m < keys.length
            · have b3 : decide (((m : Nat) : Int) < ((keys.length : Nat) : Int)) = true := decide_eq_true (by omega)
              have r1 : (((m : Nat) : Int) < ((keys.length : Nat) : Int)) = True := eq_true (by omega)
              have C1' := Kd.C_below C1 HI3.out.2.2.1.2.2
              obtain ⟨ad1, rfl, hk1⟩ := Kd.at_string C1' m (by omega) (by omega)
              have hk1 : wr.cell? (ad1.add m) = some (.string keys[m]) := by
                rw [rdOf_eq _ _ hmk] at hk1
                exact hk1
              have w1a : ∀ c : Array Value, (wr.alloc (.cells c 96)).cell? ⟨W.heap.size + 1, 1, none⟩ = some (.slice (some ad1) keys.length c1) := fun c => pw_cell_below (below_mk (Below.refl _ _) _) n1
              have k1a : ∀ c : Array Value, (wr.alloc (.cells c 96)).cell? (ad1.add m) = some (.string keys[m]) := fun c => pw_cell_below (below_mk (Below.refl _ _) _) hk1
              by_cases hm0 : m = 0
              · have e0 : decide ((0 : Int) < ((m : Nat) : Int)) = false := decide_eq_false (by omega)
                have e0n : decide (0 < m) = false := decide_eq_false (by omega)
                clear C1' hk1
                have HKV : Aside0 (∀ W', FormI w0 F (some ad) r.length cn order dep' kv' (acc ++ (List.range m).flatMap L) W' → Calls Try.prog 38 #[.pointer (some ⟨F, 0, none⟩), .int .i64 kids[m], .int .i64 ((depth : Nat) + 1 : Int), .agg #[.string (lo.getD ⟨#[]⟩), .string keys[m], .bool lo.isSome, .bool true]] W' fun e W'' => e = .returned (.tuple #[]) ∧ Keep9 F W' W'' ∧ ∃ kv'', FormI w0 F (some ad) r.length cn order (depth + d) kv'' (acc ++ (List.range (m + 1)).flatMap L) W'') := ⟨fun W' h => by
                  have := HKM.out dep' kv' W' h HD.out.1
                  rw [if_pos hm0, if_pos hmk, List.getElem?_eq_getElem hmk] at this
                  exact this⟩
                have HI4 : Aside0 (NodeI w0 F (some ad) r.length cn order W.heap.size (W.heap.size + 1) lo hi false (some ad1) keys.length c1 (some ad2) kids.length c2 W dep' kv' (acc ++ (List.range m).flatMap L) (wr.alloc (.cells #[.string (lo.getD ⟨#[]⟩), .string keys[m], .bool lo.isSome, .bool true] 96))) := ⟨HI3.out.below (below_mk (Below.refl _ _) _)⟩
                clear HKM HI3 m0' HD
                try clear hm0
                go_wp2
                have t2 := w2a #[.string (lo.getD ⟨#[]⟩), .string keys[m], .bool lo.isSome, .bool true]
                have tk := k2a #[.string (lo.getD ⟨#[]⟩), .string keys[m], .bool lo.isSome, .bool true]
                have hn4 := heap_alloc_new wr (.cells #[.string (lo.getD ⟨#[]⟩), .string keys[m], .bool lo.isSome, .bool true] 96)
                have t5 : (wr.alloc (.cells #[.string (lo.getD ⟨#[]⟩), .string keys[m], .bool lo.isSome, .bool true] 96)).cell? ⟨wr.heap.size, 0, none⟩ = some (.string (lo.getD ⟨#[]⟩)) := (blk_cell hn4 0).trans rfl
                have t6 : (wr.alloc (.cells #[.string (lo.getD ⟨#[]⟩), .string keys[m], .bool lo.isSome, .bool true] 96)).cell? ⟨wr.heap.size, 1, none⟩ = some (.string keys[m]) := (blk_cell hn4 1).trans rfl
                have t7 : (wr.alloc (.cells #[.string (lo.getD ⟨#[]⟩), .string keys[m], .bool lo.isSome, .bool true] 96)).cell? ⟨wr.heap.size, 2, none⟩ = some (.bool lo.isSome) := (blk_cell hn4 2).trans rfl
                have t8 : (wr.alloc (.cells #[.string (lo.getD ⟨#[]⟩), .string keys[m], .bool lo.isSome, .bool true] 96)).cell? ⟨wr.heap.size, 3, none⟩ = some (.bool true) := (blk_cell hn4 3).trans rfl
                clear w2a k2a hn4
                generalize wr.alloc (.cells #[.string (lo.getD ⟨#[]⟩), .string keys[m], .bool lo.isSome, .bool true] 96) = W4 at *
                have HID := Aside0.mk (HI4.out.below (below_drew (Below.refl _ _)))
                have dw : wrap64 ((depth : Nat) + 1 : Int) = ((depth : Nat) : Int) + 1 := wrap_small _ (by omega) (by omega)
                go_still_tail 9, (by kernel_rfl)
                change wpList _ _ _ _ _ W4.drew
                clear t2 tk t5 t6 t7 t8 HI4 dw
                generalize W4.drew = W5 at *
                go_wp2_with fail
                refine (HKV.out _ HID.out.2.2.1).mono ?_
                rintro e w5 ⟨rfl, hKp, kv5, hF5⟩
                have HI5 : Aside0 (NodeI w0 F (some ad) r.length cn order W.heap.size (W.heap.size + 1) lo hi false (some ad1) keys.length c1 (some ad2) kids.length c2 W (depth + d) kv5 (acc ++ (List.range (m + 1)).flatMap L) w5) := by
                  have h4 := HID.out
                  exact ⟨hKp.2 _ 96 _ (by have := h4.2.2.2.2.1; omega) (by decide) h4.1, hKp.2 _ 43 _ (by have := h4.2.2.2.2; omega) (by decide) h4.2.1, hF5, h4.2.2.2.1.trans hKp, h4.2.2.2.2⟩
                clear hKp hF5 HKV HID
                go_wp2
                go_roundw
                case measure => show kids.length - (m + 1) < kids.length - m; omega
                case rel => exact ⟨m + 1, depth + d, kv5, by first | rfl | (simp; done) | (congr 1), by omega, HI5, ⟨.inr rfl, fun _ => rfl⟩⟩
              · obtain ⟨m', hmm⟩ : ∃ m', m = m' + 1 := ⟨m - 1, by omega⟩
                have e0 : decide ((0 : Int) < ((m : Nat) : Int)) = true := decide_eq_true (by omega)
                have e0n : decide (0 < m) = true := decide_eq_true (by omega)
                have s1 : ((1 : Int) ≤ ((m : Nat) : Int)) = True := eq_true (by omega)
                have s2 : ((0 : Int) ≤ ((m : Nat) : Int) - 1) = True := eq_true (by omega)
                have s3 : (((m : Nat) : Int) - 1 < ((keys.length : Nat) : Int)) = True := eq_true (by omega)
                have s4 : 1 ≤ m := by omega
                have s5 : (((m : Nat) : Int) - 1).toNat = m' := by omega
                have s6 : m - 1 = m' := by omega
                have HMM := Aside0.mk hmm
                clear hmm
                have hmp : m' < keys.length := by have := HMM.out; omega
                have hkp : wr.cell? (ad1.add m') = some (.string keys[m']) := by
                  obtain ⟨ad1', e1, hk2⟩ := Kd.at_string C1' m' (by omega) (by omega)
                  cases e1
                  rw [rdOf_eq _ _ hmp] at hk2
                  exact hk2
                have k1b : ∀ c : Array Value, (wr.alloc (.cells c 96)).cell? (ad1.add m') = some (.string keys[m']) := fun c => pw_cell_below (below_mk (Below.refl _ _) _) hkp
                have k1c : ∀ c : Array Value, (wr.alloc (.cells c 96)).cell? (ad1.add (m - 1)) = some (.string keys[m']) := fun c => by rw [s6]; exact k1b c
                clear s5 s6
                clear C1' hk1 hkp hm0
                have HKV : Aside0 (∀ W', FormI w0 F (some ad) r.length cn order dep' kv' (acc ++ (List.range m).flatMap L) W' → Calls Try.prog 38 #[.pointer (some ⟨F, 0, none⟩), .int .i64 kids[m], .int .i64 ((depth : Nat) + 1 : Int), .agg #[.string keys[m'], .string keys[m], .bool true, .bool true]] W' fun e W'' => e = .returned (.tuple #[]) ∧ Keep9 F W' W'' ∧ ∃ kv'', FormI w0 F (some ad) r.length cn order (depth + d) kv'' (acc ++ (List.range (m + 1)).flatMap L) W'') := ⟨fun W' h => by
                  have := HKM.out dep' kv' W' h HD.out.1
                  rw [if_neg (show ¬ m = 0 by omega), if_pos hmk, List.getElem?_eq_getElem hmk, show m - 1 = m' by have := HMM.out; omega, List.getElem?_eq_getElem hmp] at this
                  exact this⟩
                have HI4 : Aside0 (NodeI w0 F (some ad) r.length cn order W.heap.size (W.heap.size + 1) lo hi false (some ad1) keys.length c1 (some ad2) kids.length c2 W dep' kv' (acc ++ (List.range m).flatMap L) (wr.alloc (.cells #[.string keys[m'], .string keys[m], .bool true, .bool true] 96))) := ⟨HI3.out.below (below_mk (Below.refl _ _) _)⟩
                clear HKM HI3 m0' HD
                try clear hm0
                go_wp2
                have t2 := w2a #[.string keys[m'], .string keys[m], .bool true, .bool true]
                have tk := k2a #[.string keys[m'], .string keys[m], .bool true, .bool true]
                have hn4 := heap_alloc_new wr (.cells #[.string keys[m'], .string keys[m], .bool true, .bool true] 96)
                have t5 : (wr.alloc (.cells #[.string keys[m'], .string keys[m], .bool true, .bool true] 96)).cell? ⟨wr.heap.size, 0, none⟩ = some (.string keys[m']) := (blk_cell hn4 0).trans rfl
                have t6 : (wr.alloc (.cells #[.string keys[m'], .string keys[m], .bool true, .bool true] 96)).cell? ⟨wr.heap.size, 1, none⟩ = some (.string keys[m]) := (blk_cell hn4 1).trans rfl
                have t7 : (wr.alloc (.cells #[.string keys[m'], .string keys[m], .bool true, .bool true] 96)).cell? ⟨wr.heap.size, 2, none⟩ = some (.bool true) := (blk_cell hn4 2).trans rfl
                have t8 : (wr.alloc (.cells #[.string keys[m'], .string keys[m], .bool true, .bool true] 96)).cell? ⟨wr.heap.size, 3, none⟩ = some (.bool true) := (blk_cell hn4 3).trans rfl
                clear w2a k2a hn4
                generalize wr.alloc (.cells #[.string keys[m'], .string keys[m], .bool true, .bool true] 96) = W4 at *
                have HID := Aside0.mk (HI4.out.below (below_drew (Below.refl _ _)))
                have dw : wrap64 ((depth : Nat) + 1 : Int) = ((depth : Nat) : Int) + 1 := wrap_small _ (by omega) (by omega)
                go_still_tail 9, (by kernel_rfl)
                change wpList _ _ _ _ _ W4.drew
                clear t2 tk t5 t6 t7 t8 HI4 dw
                generalize W4.drew = W5 at *
                go_wp2_with fail
                refine (HKV.out _ HID.out.2.2.1).mono ?_
                rintro e w5 ⟨rfl, hKp, kv5, hF5⟩
                have HI5 : Aside0 (NodeI w0 F (some ad) r.length cn order W.heap.size (W.heap.size + 1) lo hi false (some ad1) keys.length c1 (some ad2) kids.length c2 W (depth + d) kv5 (acc ++ (List.range (m + 1)).flatMap L) w5) := by
                  have h4 := HID.out
                  exact ⟨hKp.2 _ 96 _ (by have := h4.2.2.2.2.1; omega) (by decide) h4.1, hKp.2 _ 43 _ (by have := h4.2.2.2.2; omega) (by decide) h4.2.1, hF5, h4.2.2.2.1.trans hKp, h4.2.2.2.2⟩
                clear hKp hF5 HKV HID
                go_wp2
                go_roundw
                case measure => show kids.length - (m + 1) < kids.length - m; omega
                case rel => exact ⟨m + 1, depth + d, kv5, by first | rfl | (simp; done) | (congr 1), by omega, HI5, ⟨.inr rfl, fun _ => rfl⟩⟩
            · have hml : m = keys.length := by have h8 : kids.length = keys.length + 1 := HK1.out; omega
              have b3 : decide (((m : Nat) : Int) < ((keys.length : Nat) : Int)) = false := decide_eq_false (by omega)
              have hpos := HK0.out
              obtain ⟨m', hmm⟩ : ∃ m', m = m' + 1 := ⟨m - 1, by omega⟩
              have e0 : decide ((0 : Int) < ((m : Nat) : Int)) = true := decide_eq_true (by omega)
              have e0n : decide (0 < m) = true := decide_eq_true (by omega)
              have s1 : ((1 : Int) ≤ ((m : Nat) : Int)) = True := eq_true (by omega)
              have s2 : ((0 : Int) ≤ ((m : Nat) : Int) - 1) = True := eq_true (by omega)
              have s3 : (((m : Nat) : Int) - 1 < ((keys.length : Nat) : Int)) = True := eq_true (by omega)
              have s4 : 1 ≤ m := by omega
              have s5 : (((m : Nat) : Int) - 1).toNat = m' := by omega
              have s6 : m - 1 = m' := by omega
              have HMM := Aside0.mk hmm
              clear hmm
              have hmp : m' < keys.length := by have := HMM.out; omega
              obtain ⟨ad1, rfl, hkp⟩ := Kd.at_string (Kd.C_below C1 HI3.out.2.2.1.2.2) m' (by omega) (by omega)
              have hkp : wr.cell? (ad1.add m') = some (.string keys[m']) := by
                rw [rdOf_eq _ _ hmp] at hkp
                exact hkp
              have w1a : ∀ c : Array Value, (wr.alloc (.cells c 96)).cell? ⟨W.heap.size + 1, 1, none⟩ = some (.slice (some ad1) keys.length c1) := fun c => pw_cell_below (below_mk (Below.refl _ _) _) n1
              have k1b : ∀ c : Array Value, (wr.alloc (.cells c 96)).cell? (ad1.add m') = some (.string keys[m']) := fun c => pw_cell_below (below_mk (Below.refl _ _) _) hkp
              have k1c : ∀ c : Array Value, (wr.alloc (.cells c 96)).cell? (ad1.add (m - 1)) = some (.string keys[m']) := fun c => by rw [s6]; exact k1b c
              clear s5 s6
              clear hkp hml
              have HKV : Aside0 (∀ W', FormI w0 F (some ad) r.length cn order dep' kv' (acc ++ (List.range m).flatMap L) W' → Calls Try.prog 38 #[.pointer (some ⟨F, 0, none⟩), .int .i64 kids[m], .int .i64 ((depth : Nat) + 1 : Int), .agg #[.string keys[m'], .string (hi.getD ⟨#[]⟩), .bool true, .bool hi.isSome]] W' fun e W'' => e = .returned (.tuple #[]) ∧ Keep9 F W' W'' ∧ ∃ kv'', FormI w0 F (some ad) r.length cn order (depth + d) kv'' (acc ++ (List.range (m + 1)).flatMap L) W'') := ⟨fun W' h => by
                have := HKM.out dep' kv' W' h HD.out.1
                rw [if_neg (show ¬ m = 0 by omega), if_neg hmk, show m - 1 = m' by have := HMM.out; omega, List.getElem?_eq_getElem hmp] at this
                exact this⟩
              have HI4 : Aside0 (NodeI w0 F (some ad) r.length cn order W.heap.size (W.heap.size + 1) lo hi false (some ad1) keys.length c1 (some ad2) kids.length c2 W dep' kv' (acc ++ (List.range m).flatMap L) (wr.alloc (.cells #[.string keys[m'], .string (hi.getD ⟨#[]⟩), .bool true, .bool hi.isSome] 96))) := ⟨HI3.out.below (below_mk (Below.refl _ _) _)⟩
              clear HKM HI3 m0' HD
              try clear hm0
              go_wp2
              have t2 := w2a #[.string keys[m'], .string (hi.getD ⟨#[]⟩), .bool true, .bool hi.isSome]
              have tk := k2a #[.string keys[m'], .string (hi.getD ⟨#[]⟩), .bool true, .bool hi.isSome]
              have hn4 := heap_alloc_new wr (.cells #[.string keys[m'], .string (hi.getD ⟨#[]⟩), .bool true, .bool hi.isSome] 96)
              have t5 : (wr.alloc (.cells #[.string keys[m'], .string (hi.getD ⟨#[]⟩), .bool true, .bool hi.isSome] 96)).cell? ⟨wr.heap.size, 0, none⟩ = some (.string keys[m']) := (blk_cell hn4 0).trans rfl
              have t6 : (wr.alloc (.cells #[.string keys[m'], .string (hi.getD ⟨#[]⟩), .bool true, .bool hi.isSome] 96)).cell? ⟨wr.heap.size, 1, none⟩ = some (.string (hi.getD ⟨#[]⟩)) := (blk_cell hn4 1).trans rfl
              have t7 : (wr.alloc (.cells #[.string keys[m'], .string (hi.getD ⟨#[]⟩), .bool true, .bool hi.isSome] 96)).cell? ⟨wr.heap.size, 2, none⟩ = some (.bool true) := (blk_cell hn4 2).trans rfl
              have t8 : (wr.alloc (.cells #[.string keys[m'], .string (hi.getD ⟨#[]⟩), .bool true, .bool hi.isSome] 96)).cell? ⟨wr.heap.size, 3, none⟩ = some (.bool hi.isSome) := (blk_cell hn4 3).trans rfl
              clear w2a k2a hn4
              generalize wr.alloc (.cells #[.string keys[m'], .string (hi.getD ⟨#[]⟩), .bool true, .bool hi.isSome] 96) = W4 at *
              have HID := Aside0.mk (HI4.out.below (below_drew (Below.refl _ _)))
              have dw : wrap64 ((depth : Nat) + 1 : Int) = ((depth : Nat) : Int) + 1 := wrap_small _ (by omega) (by omega)
              go_still_tail 9, (by kernel_rfl)
              change wpList _ _ _ _ _ W4.drew
              clear t2 tk t5 t6 t7 t8 HI4 dw
              generalize W4.drew = W5 at *
              go_wp2_with fail
              refine (HKV.out _ HID.out.2.2.1).mono ?_
              rintro e w5 ⟨rfl, hKp, kv5, hF5⟩
              have HI5 : Aside0 (NodeI w0 F (some ad) r.length cn order W.heap.size (W.heap.size + 1) lo hi false (some ad1) keys.length c1 (some ad2) kids.length c2 W (depth + d) kv5 (acc ++ (List.range (m + 1)).flatMap L) w5) := by
                have h4 := HID.out
                exact ⟨hKp.2 _ 96 _ (by have := h4.2.2.2.2.1; omega) (by decide) h4.1, hKp.2 _ 43 _ (by have := h4.2.2.2.2; omega) (by decide) h4.2.1, hF5, h4.2.2.2.1.trans hKp, h4.2.2.2.2⟩
              clear hKp hF5 HKV HID
              go_wp2
              go_roundw
              case measure => show kids.length - (m + 1) < kids.length - m; omega
              case rel => exact ⟨m + 1, depth + d, kv5, by first | rfl | (simp; done) | (congr 1), by omega, HI5, ⟨.inr rfl, fun _ => rfl⟩⟩
          · have b2 : decide (((m : Nat) : Int) < ((kids.length : Nat) : Int)) = false := decide_eq_false (by omega)
            obtain rfl : m = kids.length := by omega
            have hdd : dep' = depth + d := HD.out.2 hk0
            subst hdd
            go_wp2
            go_end0
            exact ⟨rfl, HI3.out.2.2.2.1, _, HI3.out.2.2.1⟩
end Go.Proofs.Ytjabcdfbncglnaa
namespace Go.Proofs.Ytjabcdfbncglnaa
open Go.RowKit Go.Proofs.YtjabcdfbncglnaaW.PrintWords Go.Proofs.YtjabcdfbncglnaaW.PrintLast Go.Proofs.YtjabcdfbncglnaaW.PrintMore
open PTreeRanks (S59 k59 z59 S43 k43 z43)
set_option linter.unusedVariables false
set_option linter.unusedSimpArgs false

theorem range_flatMap_le {α : Type} (L : Nat → List α) : ∀ {m n : Nat}, m ≤ n → ((List.range m).flatMap L).length ≤ ((List.range n).flatMap L).length
  | m, 0, h => by obtain rfl : m = 0 := by omega
                  exact Nat.le_refl _
  | m, n + 1, h => by
    by_cases e : m = n + 1
    · subst e; exact Nat.le_refl _
    · have := range_flatMap_le L (show m ≤ n by omega)
      rw [List.range_succ, List.flatMap_append, List.length_append]
      omega
theorem range_flatMap_get {α β : Type} (f : α → List β) : ∀ (cs : List α) (g : Nat → List β), (∀ m c, cs[m]? = some c → g m = f c) → (List.range cs.length).flatMap g = cs.flatMap f
  | [], _, _ => rfl
  | c :: cs, g, h => by
    have ih := range_flatMap_get f cs (fun m => g (m + 1)) (fun m c hm => h (m + 1) c (by simpa using hm))
    rw [List.length_cons, List.range_succ_eq_map, List.flatMap_cons, List.flatMap_map, List.flatMap_cons, h 0 c rfl]
    congr 1

/-- The keys of the kid with a number. -/
def kidL {d : Nat} (cs : List (T d)) (m : Nat) : List ByteArray := match cs[m]? with | some c => keysOf (toList d c) | none => []
theorem kidL_get {d : Nat} {cs : List (T d)} {m : Nat} {c : T d} (h : cs[m]? = some c) : kidL cs m = keysOf (toList d c) := by unfold kidL; rw [h]
theorem kidL_all {d : Nat} (cs : List (T d)) : (List.range cs.length).flatMap (kidL cs) = keysOf (cs.flatMap (toList d)) := by
  rw [keysOf_flatMap]
  exact range_flatMap_get (fun c => keysOf (toList d c)) cs _ (fun m c h => kidL_get h)

theorem rangeI_length (n j : Nat) : (rangeI n j).length = j := by unfold rangeI; rw [List.length_map, List.length_range]
theorem rangeI_get (n j m : Nat) (h : m < (rangeI n j).length) : (rangeI n j)[m] = ((n + m : Nat) : Int) := by
  have e : (rangeI n j)[m]? = some ((n + m : Nat) : Int) := by
    have hj : m < j := by rwa [rangeI_length] at h
    unfold rangeI
    rw [List.getElem?_map, List.getElem?_range hj]
    rfl
  exact (List.getElem?_eq_some_iff.1 e).2

theorem node_ok {w0 : World} {F : Nat} {An : Option Addr} {cn order : Nat} {r : List S43} (h3 : 3 ≤ order) (h4 : order ≤ 64) (hr : Kd.C k43 w0 An r.length r) (hcn : r.length ≤ cn) (hwF : w0.heap.size ≤ F) : ∀ d, NodeOk w0 F An cn order r d
  | 0 => fun l i depth lo hi dep kv acc W hL hW hI hdep hd0 hd1 hacc => by
    obtain ⟨l, rfl⟩ : ∃ l' : List S59, l' = l := ⟨l, rfl⟩
    obtain ⟨hi1, hx⟩ := List.getElem?_eq_some_iff.1 (show r[i]? = some ⟨true, keysOf l, []⟩ from hL)
    obtain ⟨w1, w2, w3, w4⟩ := WF_zero.1 hW
    have hlk := keysOf_length l
    have hacc : acc.length + l.length ≤ 1099511627776 := hacc
    refine node_step h3 h4 hr hcn (i := i) (depth := depth) (d := 0) (lo := lo) (hi := hi) (dep := dep) (kv := kv) (acc := acc) ⟨true, keysOf l, []⟩ hi1 hx hI hdep hd0 hd1 w1 w2 (by show (keysOf l).length ≤ 900; omega) (fun _ => []) (by show (acc ++ keysOf l).length ≤ _; rw [List.length_append]; omega) hwF (fun _ => rfl) (fun h => by cases h) ?_
    intro W' A1 c1 A2 c2 hF
    refine filled_leaf F order (keysOf l).length c1 c2 A1 A2 _ W' h3 h4 hF (by omega) ?_
    by_cases h0 : i = 0
    · subst h0; exact .inl rfl
    · right
      rw [if_neg h0] at w4
      have w4 : order / 2 ≤ l.length := w4
      omega
  | d + 1 => fun t i depth lo hi dep kv acc W hL hW hI hdep hd0 hd1 hacc => by
    obtain ⟨ks, cs, rfl⟩ : ∃ (ks : List ByteArray) (cs : List (T d)), ((ks, cs) : List ByteArray × List (T d)) = t := ⟨t.1, t.2, rfl⟩
    obtain ⟨n, hn0, hxi, hkids⟩ := hL
    obtain ⟨hi1, hx⟩ := List.getElem?_eq_some_iff.1 (show r[i]? = some ⟨false, ks, rangeI n cs.length⟩ from hxi)
    obtain ⟨w1, w2, w3⟩ := WF_succ.1 hW
    have hlen := WK_length w1
    obtain ⟨f1, f2, f3, f4⟩ := WK_facts (toL := toList d) (fun lo hi c => WF_P h3 d lo hi c) w1
    have hmin : 2 ≤ cs.length := by
      rw [if_neg (Nat.succ_ne_zero d)] at w3
      by_cases h0 : i = 0
      · rw [if_pos h0] at w3; exact w3
      · rw [if_neg h0] at w3
        have w3 : (order + 1) / 2 ≤ cs.length := w3
        omega
    have hacc : acc.length + (cs.map (size d)).sum ≤ 1099511627776 := hacc
    have hall := kidL_all cs
    have hsz : ((List.range cs.length).flatMap (kidL cs)).length = (cs.map (size d)).sum := by
      rw [hall, keysOf_length]
      exact (size_eq (d + 1) ((ks, cs) : List ByteArray × List (T d))).symm
    have key := node_step h3 h4 hr hcn (i := i) (depth := depth) (d := d + 1) (lo := lo) (hi := hi) (dep := dep) (kv := kv) (acc := acc) (W := W) ⟨false, ks, rangeI n cs.length⟩ hi1 hx hI hdep hd0 hd1 f1
      (fun k hk => ⟨fun l e => blt_asymm ((f2 k hk).1 l e), (f2 k hk).2⟩) (by show ks.length ≤ 900; omega) (kidL cs)
      (by show (acc ++ (List.range (rangeI n cs.length).length).flatMap (kidL cs)).length ≤ _; rw [rangeI_length, List.length_append, hsz]; exact hacc) hwF (fun h => by cases h) ?_ ?_
    · have e : (acc ++ if (⟨false, ks, rangeI n cs.length⟩ : S43).f0 then (⟨false, ks, rangeI n cs.length⟩ : S43).f1 else (List.range (⟨false, ks, rangeI n cs.length⟩ : S43).f2.length).flatMap (kidL cs)) = acc ++ keysOf (toList (d + 1) ((ks, cs) : List ByteArray × List (T d))) := by
        show acc ++ (List.range (rangeI n cs.length).length).flatMap (kidL cs) = _
        rw [rangeI_length, hall, toList_inner]
      rw [e] at key
      exact key
    · intro _
      refine ⟨by show 0 < ks.length; omega, by show (rangeI n cs.length).length = ks.length + 1; rw [rangeI_length]; exact hlen, ?_⟩
      intro m hm dep' kv' W' hF hdep'
      have hm : m < cs.length := by have h : m < (rangeI n cs.length).length := hm; rwa [rangeI_length] at h
      have hP := WK_get w1 m hm
      have hpre := range_flatMap_le (kidL cs) (show m + 1 ≤ cs.length by omega)
      have hgl := kidL_get (List.getElem?_eq_getElem hm)
      rw [List.range_succ, List.flatMap_append, List.length_append, List.flatMap_singleton, hgl, keysOf_length, ← size_eq, hsz] at hpre
      have ih := node_ok h3 h4 hr hcn hwF d cs[m] (n + m) (depth + 1) (if m = 0 then lo else ks[m - 1]?) (if m < ks.length then ks[m]? else hi) dep' kv' (acc ++ (List.range m).flatMap (kidL cs)) W'
        (hkids m _ (List.getElem?_eq_getElem hm)) (by rw [if_neg (by omega)]; exact hP) hF (by omega) (by omega) (by omega) (by rw [List.length_append]; omega)
      have e1 : (⟨false, ks, rangeI n cs.length⟩ : S43).f2[m]'(by show m < (rangeI n cs.length).length; rwa [rangeI_length]) = ((n + m : Nat) : Int) := rangeI_get n cs.length m (by rwa [rangeI_length])
      have e2 : ((depth : Nat) : Int) + 1 = ((depth + 1 : Nat) : Int) := by omega
      have e3 : depth + 1 + d = depth + (d + 1) := by omega
      have e4 : acc ++ (List.range m).flatMap (kidL cs) ++ keysOf (toList d cs[m]) = acc ++ (List.range (m + 1)).flatMap (kidL cs) := by
        rw [List.range_succ, List.flatMap_append, List.flatMap_singleton, hgl, List.append_assoc]
      rw [e3, e4, ← e2] at ih
      rw [e1]
      exact ih
    · intro W' A1 c1 A2 c2 hF
      show Calls Try.prog 54 #[.pointer (some ⟨F, 0, none⟩), .agg #[.bool false, .slice A1 ks.length c1, .slice A2 (rangeI n cs.length).length c2], .bool (((i : Nat) : Int) == 0)] W' _
      rw [rangeI_length, hlen]
      refine filled_inner F order ks.length c1 c2 A1 A2 _ W' h3 h4 hF (by omega) ?_
      by_cases h0 : i = 0
      · subst h0
        show 2 ≤ ks.length + 1
        omega
      · have e : (((i : Nat) : Int) == 0) = false := by
          apply Bool.eq_false_iff.2
          intro e
          have e : ((i : Nat) : Int) = 0 := by simpa using e
          omega
        rw [e]
        rw [if_neg (Nat.succ_ne_zero d), if_neg h0] at w3
        have w3 : (order + 1) / 2 ≤ cs.length := w3
        show (order + 1) / 2 ≤ ks.length + 1
        omega
end Go.Proofs.Ytjabcdfbncglnaa
