/- WHAT IS PROVED: TreeScans answers true at every order, keys and script. -/
import Derived.Test.YtjabcdfbncglnaaLSs0
import Derived.Test.YtjabcdfbncglnaaLRh
import Derived.Test.YtjabcdfbncglnaaLAsc
import Derived.Test.YtjabcdfbncglnaaLB13
import Derived.RangeFuncNested
namespace Go.Proofs.Ytjabcdfbncglnaa
open Go.RowKit Go.Shelf Go.Proofs.YtjabcdfbncglnaaW.PrintWords Go.Proofs.YtjabcdfbncglnaaW.PrintLast Go.Proofs.YtjabcdfbncglnaaW.PrintMore
open PTreeRanks (S59 k59 z59)
attribute [local go_sem] Oper.semAt_some
set_option linter.unusedVariables false
set_option linter.unusedSimpArgs false

theorem run_store_fn (P : Program) (a : Addr) (m : Mode) (w : World) (fn : Fn) (first captured : Array Value) : (store a (.func fn first captured) m).run P w = stored P w a (.func fn first captured) m := run_store P w a _ m rfl
attribute [local go_sem] run_store_fn

/-- Between two operations of TreeScans. -/
structure ScOp (order q6 bt s : Nat) (w0 : World) (L B : Nat) (Ds : List Nat) (W : World) : Prop where
  below : Below w0.heap.size w0 W
  h0 : w0.heap.size ≤ q6
  h1 : q6 < bt
  h2 : bt < s
  ans : W.heap[q6]? = some (.cells #[.bool false] 4 (0, 0))
  rest : ∃ (l : List S59) (lv : Value) (okA : Nat → Prop), ¬ okA q6 ∧ ¬ okA bt ∧ ¬ okA s ∧ W.heap[s]? = some (.cells #[.pointer (some ⟨bt, 0, none⟩), lv] 27 (0, 0)) ∧ k59.R 59 W 0 okA lv l ∧ TG order l okA bt W ∧ l.length ≤ L ∧ ∀ y ∈ l, y.f0.size ≤ B
  marks : ∀ D ∈ Ds, w0.heap.size ≤ D ∧ W.heap[D]? = some (.deferred (some []))
  nodup : Ds.Nodup

theorem ScOp.next {order q6 bt s : Nat} {w0 : World} {L B : Nat} {Ds : List Nat} {W W' : World} (h : ScOp order q6 bt s w0 L B Ds W) (hb : Below W.heap.size W W') : ScOp order q6 bt s w0 L B Ds W' := by
  obtain ⟨l, lv, okA, n6, nb, ns, ho, hR, hT, hl, hz⟩ := h.rest
  exact ⟨h.below.trans (hb.mono h.below.size), h.h0, h.h1, h.h2, (hb.block _ (blk_lt h.ans)).trans h.ans, ⟨l, lv, okA, n6, nb, ns, (hb.block _ (blk_lt ho)).trans ho, Kd.R_below hR hb, hT.below hb, hl, hz⟩,
    fun D hD => ⟨(h.marks D hD).1, (hb.block _ (Array.getElem?_eq_some_iff.1 (h.marks D hD).2).1).trans (h.marks D hD).2⟩, h.nodup⟩

set_option maxRecDepth 100000 in
set_option maxHeartbeats 8000000 in
theorem scans_good (order : Nat) (h3 : 3 ≤ order) (h4 : order ≤ 64) (A1 : Option Addr) (c1 : Nat) (ks : List ByteArray) (A : Option Addr) (c : Nat) (ops : List S46) (w : World) (hC1 : Kd.C Kd.string w A1 ks.length ks) (hc1 : ks.length ≤ c1) (hn1 : ks.length ≤ 2097152) (hz1 : ∀ k ∈ ks, k.size ≤ 2097152)
    (hO : OpsAt w A ops.length ops) (hc : ops.length ≤ c) (hn : ops.length ≤ 2097152) :
    Calls Try.prog 6 #[.int .i64 (order : Nat), .slice A1 ks.length c1, .slice A ops.length c] w fun e w' => e = .returned (.bool true) ∧ Below w.heap.size w w' := by
  have hu27 := Try.underlying27
  have hu46 := Try.underlying46
  have b1 : decide (((order : Nat) : Int) < 3) = false := decide_eq_false (by omega)
  have b2 : decide (((64 : Nat) : Int) < ((order : Nat) : Int)) = false := decide_eq_false (by omega)
  have b3 : decide ((64 : Int) < ((order : Nat) : Int)) = false := decide_eq_false (by omega)
  have hbA := below_mk (Below.refl w.heap.size w) (.cells #[.bool false] 4)
  have hnA := heap_alloc_new w (.cells #[.bool false] 4)
  have hsA : (w.alloc (.cells #[.bool false] 4)).heap.size = w.heap.size + 1 := by simp
  have HF := Aside0.mk (filled_calls order h3 h4 A1 c1 ks (w.alloc (.cells #[.bool false] 4)) (Kd.C_below hC1 hbA) hc1 hn1 (fun k hk => by have := hz1 k hk; omega))
  have HO := Aside0.mk hO
  have HZ1 := Aside0.mk hz1
  have HA := Aside0.mk (And.intro hbA (And.intro hnA hsA))
  clear hC1 hO hz1 hbA hnA hsA
  refine (callsIn_wide (n := 7)).1 ?_
  refine callsIn_of_wp_marks Try.func6 rfl trivial ?_ rfl
  simp only [Try.ntmps6, List.size_toArray, List.length_cons, List.length_nil, Nat.reduceAdd, Nat.reduceSub, Array.replicate_succ, Array.replicate_zero, List.push_toArray, List.append_toArray, List.nil_append, List.cons_append]
  gi_wp2_with fail
  refine ⟨trivial, (callsIn_wide.2 HF.out).mono ?_⟩
  rintro e w1 ⟨lav, rfl, hTa, hRa, hB1⟩
  obtain ⟨Aa, ca, rfl, hca, _⟩ := Kd.R_reads hRa
  obtain ⟨hbA, hnA, hsA⟩ := HA.out
  rw [hsA] at hTa hRa hB1
  have hs1 := hB1.size
  rw [hsA] at hs1
  have hbt := hTa.lt
  have hq1 := (hB1.block _ (by omega)).trans hnA
  have hla : (fillL ks 0 []).length ≤ ks.length := by simpa using fillL_length ks 0 []
  have hlz : ∀ y ∈ fillL ks 0 [], y.f0.size ≤ 2097152 := fun y hy => by
    rcases (fillL_keys y.f0 ks 0 sorted_nil).1 ⟨y, hy, rfl⟩ with h | ⟨z, h, _⟩
    · exact HZ1.out _ h
    · cases h
  have hRb : k59.R 59 w1 0 (fun k => k ≠ w.heap.size ∧ k ≠ w.heap.size + 1 + 3 ∧ k < w1.heap.size) (.slice Aa (fillL ks 0 []).length ca) (fillL ks 0 []) :=
    Kd.R_mono (Kd.R_bound hRa) (fun k hk => ⟨fun e => by
      obtain ⟨q, hq, cc, hcc⟩ := hk.2.2.2
      rw [e, hq1] at hcc
      injection hcc with hcc
      injection hcc with _ hcc
      rw [← hcc] at hq
      exact absurd hq (by decide), hk.1.2.1, hk.2.2.1⟩)
  have hTb : TG order (fillL ks 0 []) (fun k => k ≠ w.heap.size ∧ k ≠ w.heap.size + 1 + 3 ∧ k < w1.heap.size) (w.heap.size + 1 + 3) w1 := hTa.gen.imp (fun k hk _ => ⟨by omega, hk.2.1, hk.2.2⟩)
  have hbs := below_mk (Below.refl w1.heap.size w1) (.cells #[.pointer (some ⟨w.heap.size + 1 + 3, 0, none⟩), .slice Aa (fillL ks 0 []).length ca] 27)
  have HI : Aside0 (ScOp order w.heap.size (w.heap.size + 1 + 3) w1.heap.size w ks.length 2097152 [] (w1.alloc (.cells #[.pointer (some ⟨w.heap.size + 1 + 3, 0, none⟩), .slice Aa (fillL ks 0 []).length ca] 27))) :=
    ⟨(hbA.trans (hB1.mono (by omega))).trans (hbs.mono (by omega)), Nat.le_refl _, by omega, hbt, (hbs.block _ (by omega)).trans hq1,
      ⟨fillL ks 0 [], _, fun k => k ≠ w.heap.size ∧ k ≠ w.heap.size + 1 + 3 ∧ k < w1.heap.size, fun h => h.1 rfl, fun h => h.2.1 rfl, fun h => absurd h.2.2 (by omega), heap_alloc_new _ _, Kd.R_below hRb hbs, hTb.below hbs, hla, hlz⟩, (fun D hD => by cases hD), List.nodup_nil⟩
  have HLV := Aside0.mk (live_calls (w1.alloc (.cells #[.pointer (some ⟨w.heap.size + 1 + 3, 0, none⟩), .slice Aa (fillL ks 0 []).length ca] 27)))
  clear hTa hRa hRb hTb hbs hq1 hbA hnA HA hB1 hla hlz HF hbt hs1 hca HZ1
  gi_wp2_with fail
  refine ⟨trivial, (callsIn_wide.2 HLV.out).mono ?_⟩
  rintro e w3 ⟨rfl, hb3⟩
  gi_wp2_with fail
  have HI3 := Aside0.mk (HI.out.next hb3)
  clear HI hb3 HLV
  refine wpIn_loop (fun a W => ∃ (u9 u10 u11 u12 u13 u14 u15 u16 u37 u38 u39 u40 u41 u42 u43 u44 u45 u46 u47 u48 u49 u50 u51 u52 u53 u54 u55 u58 u59 u60 u61 u62 u63 u64 u65 u66 u67 u68 u69 u70 u71 u72 u73 u74 u75 u76 u77 u78 u79 u80 u81 u82 u83 u84 u85 u86 u87 u88 u89 u90 u91 u92 u93 u94 u95 u98 u99 u100 u101 u102 u103 u104 u105 u106 u107 u108 u109 u110 u111 u112 u113 u114 u115 u116 u117 u118 u119 u120 : Value) (i : Nat) (Ds : List Nat), a = { tmps := #[.int .i64 (order : Nat), .slice A1 ks.length c1, .slice A ops.length c, undef, undef, undef, .pointer (some ⟨w.heap.size, 0, none⟩), .pointer (some ⟨w1.heap.size, 0, none⟩), undef, u9, u10, u11, u12, u13, u14, u15, u16, .int .i64 (order : Nat), .bool false, .bool false, .int .i64 (order : Nat), .bool false, .bool false, undef, .int .i64 (order : Nat), .slice A1 ks.length c1, .agg #[.pointer (some ⟨w.heap.size + 1 + 3, 0, none⟩), .slice Aa (fillL ks 0 []).length ca], .pointer (some ⟨w1.heap.size, 0, none⟩), .pointer (some ⟨w.heap.size + 1 + 3, 0, none⟩), .bool false, .bool false, .bool true, .bool false, .bool false, .slice A ops.length c, .int .i64 (ops.length : Nat), .int .i64 (i : Nat), u37, u38, u39, u40, u41, u42, u43, u44, u45, u46, u47, u48, u49, u50, u51, u52, u53, u54, u55, undef, undef, u58, u59, u60, u61, u62, u63, u64, u65, u66, u67, u68, u69, u70, u71, u72, u73, u74, u75, u76, u77, u78, u79, u80, u81, u82, u83, u84, u85, u86, u87, u88, u89, u90, u91, u92, u93, u94, u95, undef, undef, u98, u99, u100, u101, u102, u103, u104, u105, u106, u107, u108, u109, u110, u111, u112, u113, u114, u115, u116, u117, u118, u119, u120], defers := Ds.map mark } ∧ i ≤ ops.length ∧ Aside0 (ScOp order w.heap.size (w.heap.size + 1 + 3) w1.heap.size w ks.length (2097152 + i) Ds W)) (fun a W => ops.length - (RowKit.intOf (a.tmps.getD 36 undef)).toNat) ⟨_, _, _, _, _, _, _, _, _, _, _, _, _, _, _, _, _, _, _, _, _, _, _, _, _, _, _, _, _, _, _, _, _, _, _, _, _, _, _, _, _, _, _, _, _, _, _, _, _, _, _, _, _, _, _, _, _, _, _, _, _, _, _, _, _, _, _, _, _, _, _, _, _, _, _, _, _, _, _, _, _, _, _, _, _, _, _, _, 0, [], rfl, Nat.zero_le _, HI3⟩ ?_
  clear HI3
  intro a W hinv
  obtain ⟨u9, hinv⟩ := hinv
  obtain ⟨u10, hinv⟩ := hinv
  obtain ⟨u11, hinv⟩ := hinv
  obtain ⟨u12, hinv⟩ := hinv
  obtain ⟨u13, hinv⟩ := hinv
  obtain ⟨u14, hinv⟩ := hinv
  obtain ⟨u15, hinv⟩ := hinv
  obtain ⟨u16, hinv⟩ := hinv
  obtain ⟨u37, hinv⟩ := hinv
  obtain ⟨u38, hinv⟩ := hinv
  obtain ⟨u39, hinv⟩ := hinv
  obtain ⟨u40, hinv⟩ := hinv
  obtain ⟨u41, hinv⟩ := hinv
  obtain ⟨u42, hinv⟩ := hinv
  obtain ⟨u43, hinv⟩ := hinv
  obtain ⟨u44, hinv⟩ := hinv
  obtain ⟨u45, hinv⟩ := hinv
  obtain ⟨u46, hinv⟩ := hinv
  obtain ⟨u47, hinv⟩ := hinv
  obtain ⟨u48, hinv⟩ := hinv
  obtain ⟨u49, hinv⟩ := hinv
  obtain ⟨u50, hinv⟩ := hinv
  obtain ⟨u51, hinv⟩ := hinv
  obtain ⟨u52, hinv⟩ := hinv
  obtain ⟨u53, hinv⟩ := hinv
  obtain ⟨u54, hinv⟩ := hinv
  obtain ⟨u55, hinv⟩ := hinv
  obtain ⟨u58, hinv⟩ := hinv
  obtain ⟨u59, hinv⟩ := hinv
  obtain ⟨u60, hinv⟩ := hinv
  obtain ⟨u61, hinv⟩ := hinv
  obtain ⟨u62, hinv⟩ := hinv
  obtain ⟨u63, hinv⟩ := hinv
  obtain ⟨u64, hinv⟩ := hinv
  obtain ⟨u65, hinv⟩ := hinv
  obtain ⟨u66, hinv⟩ := hinv
  obtain ⟨u67, hinv⟩ := hinv
  obtain ⟨u68, hinv⟩ := hinv
  obtain ⟨u69, hinv⟩ := hinv
  obtain ⟨u70, hinv⟩ := hinv
  obtain ⟨u71, hinv⟩ := hinv
  obtain ⟨u72, hinv⟩ := hinv
  obtain ⟨u73, hinv⟩ := hinv
  obtain ⟨u74, hinv⟩ := hinv
  obtain ⟨u75, hinv⟩ := hinv
  obtain ⟨u76, hinv⟩ := hinv
  obtain ⟨u77, hinv⟩ := hinv
  obtain ⟨u78, hinv⟩ := hinv
  obtain ⟨u79, hinv⟩ := hinv
  obtain ⟨u80, hinv⟩ := hinv
  obtain ⟨u81, hinv⟩ := hinv
  obtain ⟨u82, hinv⟩ := hinv
  obtain ⟨u83, hinv⟩ := hinv
  obtain ⟨u84, hinv⟩ := hinv
  obtain ⟨u85, hinv⟩ := hinv
  obtain ⟨u86, hinv⟩ := hinv
  obtain ⟨u87, hinv⟩ := hinv
  obtain ⟨u88, hinv⟩ := hinv
  obtain ⟨u89, hinv⟩ := hinv
  obtain ⟨u90, hinv⟩ := hinv
  obtain ⟨u91, hinv⟩ := hinv
  obtain ⟨u92, hinv⟩ := hinv
  obtain ⟨u93, hinv⟩ := hinv
  obtain ⟨u94, hinv⟩ := hinv
  obtain ⟨u95, hinv⟩ := hinv
  obtain ⟨u98, hinv⟩ := hinv
  obtain ⟨u99, hinv⟩ := hinv
  obtain ⟨u100, hinv⟩ := hinv
  obtain ⟨u101, hinv⟩ := hinv
  obtain ⟨u102, hinv⟩ := hinv
  obtain ⟨u103, hinv⟩ := hinv
  obtain ⟨u104, hinv⟩ := hinv
  obtain ⟨u105, hinv⟩ := hinv
  obtain ⟨u106, hinv⟩ := hinv
  obtain ⟨u107, hinv⟩ := hinv
  obtain ⟨u108, hinv⟩ := hinv
  obtain ⟨u109, hinv⟩ := hinv
  obtain ⟨u110, hinv⟩ := hinv
  obtain ⟨u111, hinv⟩ := hinv
  obtain ⟨u112, hinv⟩ := hinv
  obtain ⟨u113, hinv⟩ := hinv
  obtain ⟨u114, hinv⟩ := hinv
  obtain ⟨u115, hinv⟩ := hinv
  obtain ⟨u116, hinv⟩ := hinv
  obtain ⟨u117, hinv⟩ := hinv
  obtain ⟨u118, hinv⟩ := hinv
  obtain ⟨u119, hinv⟩ := hinv
  obtain ⟨u120, hinv⟩ := hinv
  obtain ⟨i, Ds, ha, hi, ⟨hI⟩⟩ := hinv
  subst ha
  by_cases hlt : i < ops.length
  · have q1 : decide (((i : Nat) : Int) < ((ops.length : Nat) : Int)) = true := decide_eq_true (by omega)
    have p0 : ((0 : Int) ≤ ((i : Nat) : Int)) = True := eq_true (by omega)
    have p1 : (((i : Nat) : Int) < ((ops.length : Nat) : Int)) = True := eq_true (by omega)
    obtain ⟨ad, rfl, hcell⟩ := (HO.out.below hI.below).2 (by omega)
    have hx := hcell i ops[i] (List.getElem?_eq_getElem hlt)
    generalize ops[i] = x at *
    obtain ⟨kd, other, k, k2, v, ii, beyond⟩ := x
    have c0 : W.cell? (ad.add (i * 7)) = some (.int .i64 kd) := hx.1
    have c1 : W.cell? ⟨(ad.add (i * 7)).block, (ad.add (i * 7)).off + 1, none⟩ = some (.bool other) := hx.2 1 _ (by omega) rfl
    have c2 : W.cell? ⟨(ad.add (i * 7)).block, (ad.add (i * 7)).off + 2, none⟩ = some (.string k) := hx.2 2 _ (by omega) rfl
    have c3 : W.cell? ⟨(ad.add (i * 7)).block, (ad.add (i * 7)).off + 3, none⟩ = some (.string k2) := hx.2 3 _ (by omega) rfl
    have c4 : W.cell? ⟨(ad.add (i * 7)).block, (ad.add (i * 7)).off + 4, none⟩ = some (.int .i64 v) := hx.2 4 _ (by omega) rfl
    have c5 : W.cell? ⟨(ad.add (i * 7)).block, (ad.add (i * 7)).off + 5, none⟩ = some (.int .i64 ii) := hx.2 5 _ (by omega) rfl
    have c6 : W.cell? ⟨(ad.add (i * 7)).block, (ad.add (i * 7)).off + 6, none⟩ = some (.bool beyond) := hx.2 6 _ (by omega) rfl
    obtain ⟨l, lv, okA, n6, nb, ns, ho, hR, hT, hl, hz⟩ := hI.rest
    obtain ⟨Al, cl, rfl, hcl, _⟩ := Kd.R_reads hR
    have hbX := below_mk (Below.refl W.heap.size W) (.cells #[.int .i64 kd, .bool other, .string k, .string k2, .int .i64 v, .int .i64 ii, .bool beyond] 46)
    have hnX := heap_alloc_new W (.cells #[.int .i64 kd, .bool other, .string k, .string k2, .int .i64 v, .int .i64 ii, .bool beyond] 46)
    have hsX : (W.alloc (.cells #[.int .i64 kd, .bool other, .string k, .string k2, .int .i64 v, .int .i64 ii, .bool beyond] 46)).heap.size = W.heap.size + 1 := by simp
    have hT2 := (hT.imp (ok' := fun j => okA j ∧ j < W.heap.size) (fun j hj hlt => ⟨hj, hlt⟩)).below hbX
    have HIT := Aside0.mk (iter_calls hT2 k k2)
    have hoX := (hbX.block _ (blk_lt ho)).trans ho
    have y0 : (W.alloc (.cells #[.int .i64 kd, .bool other, .string k, .string k2, .int .i64 v, .int .i64 ii, .bool beyond] 46)).cell? ⟨w1.heap.size, 0, none⟩ = some (.pointer (some ⟨w.heap.size + 1 + 3, 0, none⟩)) := (blk_cell hoX 0).trans rfl
    have y1 : (W.alloc (.cells #[.int .i64 kd, .bool other, .string k, .string k2, .int .i64 v, .int .i64 ii, .bool beyond] 46)).cell? ⟨w1.heap.size, 1, none⟩ = some (.slice Al l.length cl) := (blk_cell hoX 1).trans rfl
    have z2 : (W.alloc (.cells #[.int .i64 kd, .bool other, .string k, .string k2, .int .i64 v, .int .i64 ii, .bool beyond] 46)).cell? ⟨W.heap.size, 2, none⟩ = some (.string k) := (blk_cell hnX 2).trans rfl
    have z3 : (W.alloc (.cells #[.int .i64 kd, .bool other, .string k, .string k2, .int .i64 v, .int .i64 ii, .bool beyond] 46)).cell? ⟨W.heap.size, 3, none⟩ = some (.string k2) := (blk_cell hnX 3).trans rfl
    have HX := Aside0.mk (And.intro hbX (And.intro hnX hsX))
    have HI := Aside0.mk hI
    have HL := Aside0.mk (And.intro ho (And.intro hR hT))
    have HZ := Aside0.mk (And.intro hl hz)
    have HN := Aside0.mk (And.intro n6 (And.intro nb ns))
    clear hbX hnX hsX hT2 hoX hI hR hT ho hx hcell hl hz n6 nb ns
    gi_wp2_with fail
    refine ⟨trivial, (callsIn_wide.2 HIT.out).mono ?_⟩
    rintro e W2 ⟨rfl, hb2, hs2, hI2⟩
    obtain ⟨hbX, hnX, hsX⟩ := HX.out
    rw [hsX] at hb2 hs2 hI2 ⊢
    have hbW2 : Below W.heap.size W W2 := hbX.trans (hb2.mono (by omega))
    have hb3 := below_mk (Below.refl W2.heap.size W2) (.cells #[.func (.func 46) #[] #[.pointer (some ⟨W.heap.size + 1 + 2, 0, none⟩), .pointer (some ⟨W.heap.size + 1, 0, none⟩), .pointer (some ⟨W.heap.size + 1 + 1, 0, none⟩)]] 55)
    have hn3 := heap_alloc_new W2 (.cells #[.func (.func 46) #[] #[.pointer (some ⟨W.heap.size + 1 + 2, 0, none⟩), .pointer (some ⟨W.heap.size + 1, 0, none⟩), .pointer (some ⟨W.heap.size + 1 + 1, 0, none⟩)]] 55)
    have hs3 : (W2.alloc (.cells #[.func (.func 46) #[] #[.pointer (some ⟨W.heap.size + 1 + 2, 0, none⟩), .pointer (some ⟨W.heap.size + 1, 0, none⟩), .pointer (some ⟨W.heap.size + 1 + 1, 0, none⟩)]] 55)).heap.size = W2.heap.size + 1 := by simp
    have hbW3 : Below W.heap.size W (W2.alloc (.cells #[.func (.func 46) #[] #[.pointer (some ⟨W.heap.size + 1 + 2, 0, none⟩), .pointer (some ⟨W.heap.size + 1, 0, none⟩), .pointer (some ⟨W.heap.size + 1 + 1, 0, none⟩)]] 55)) := hbW2.trans (hb3.mono (by omega))
    obtain ⟨want, hwant⟩ : ∃ want, scanL k k2 l = want := ⟨_, rfl⟩
    have hrs := refScan (l := l) k k2 (by have := HZ.out.1; omega)
    have hwl := scanL_length k k2 l
    rw [hwant] at hrs hwl
    have HSC := Aside0.mk (PTreeRanks.keystoneref05_Scan.calls (l.length + 1) Al cl l k k2 _ (W2.alloc (.cells #[.func (.func 46) #[] #[.pointer (some ⟨W.heap.size + 1 + 2, 0, none⟩), .pointer (some ⟨W.heap.size + 1, 0, none⟩), .pointer (some ⟨W.heap.size + 1 + 1, 0, none⟩)]] 55)) (Kd.C_below (Kd.R_reads' HL.out.2.1).2.2 hbW3) hcl hrs)
    have hop2 := (hb2.block _ (by omega)).trans hnX
    have hop3 := (hb3.block _ (by omega)).trans hop2
    have z2' : (W2.alloc (.cells #[.func (.func 46) #[] #[.pointer (some ⟨W.heap.size + 1 + 2, 0, none⟩), .pointer (some ⟨W.heap.size + 1, 0, none⟩), .pointer (some ⟨W.heap.size + 1 + 1, 0, none⟩)]] 55)).cell? ⟨W.heap.size, 2, none⟩ = some (.string k) := (blk_cell hop3 2).trans rfl
    have z3' : (W2.alloc (.cells #[.func (.func 46) #[] #[.pointer (some ⟨W.heap.size + 1 + 2, 0, none⟩), .pointer (some ⟨W.heap.size + 1, 0, none⟩), .pointer (some ⟨W.heap.size + 1 + 1, 0, none⟩)]] 55)).cell? ⟨W.heap.size, 3, none⟩ = some (.string k2) := (blk_cell hop3 3).trans rfl
    have HWANT := Aside0.mk hwant
    have HS3 := Aside0.mk (And.intro hs2 (And.intro hs3 (And.intro hbW3 (And.intro hop3 (And.intro hn3 (And.intro hb3 hI2))))))
    clear hbX hnX hsX hb2 hbW2 hb3 hn3 hs3 hbW3 hwant hrs hop2 hop3 hs2 hI2 HX HIT y0 y1 z2 z3
    gi_wp2_with fail
    refine ⟨trivial, (callsIn_wide.2 HSC.out).mono ?_⟩
    rintro e W4 ⟨vw, rfl, hR4, hb4⟩
    obtain ⟨Aw, cw, rfl, hcw, _⟩ := Kd.R_reads hR4
    obtain ⟨hs2, hs3, hbW3, hop3, hn3, hb3, hI2⟩ := HS3.out
    have hs4 := hb4.size
    rw [hs3, hs2] at hs4
    have e5 : (W4.alloc (.cells #[.slice Aw want.length cw] 25)).heap.size = W4.heap.size + 1 := by simp
    have e6 : ((W4.alloc (.cells #[.slice Aw want.length cw] 25)).alloc (.cells #[.int .i64 0] 3)).heap.size = W4.heap.size + 2 := by simp
    have hb6 := below_mk (below_mk (Below.refl W4.heap.size W4) (.cells #[.slice Aw want.length cw] 25)) (.cells #[.int .i64 0] 3)
    have hq2 : ((W4.alloc (.cells #[.slice Aw want.length cw] 25)).alloc (.cells #[.int .i64 0] 3)).heap[W4.heap.size]? = some (.cells #[.slice Aw want.length cw] 25 (0, 0)) := (Below.heap_alloc _ _ _ (by rw [e5]; omega)).trans (heap_alloc_new W4 _)
    have hq3 : ((W4.alloc (.cells #[.slice Aw want.length cw] 25)).alloc (.cells #[.int .i64 0] 3)).heap[W4.heap.size + 1]? = some (.cells #[.int .i64 0] 3 (0, 0)) := by rw [← e5]; exact heap_alloc_new _ _
    have hit := (hb6.block _ (by omega)).trans ((hb4.block _ (by omega)).trans hn3)
    have x11 : ((W4.alloc (.cells #[.slice Aw want.length cw] 25)).alloc (.cells #[.int .i64 0] 3)).cell? ⟨W2.heap.size, 0, none⟩ = some (.func (.func 46) #[] #[.pointer (some ⟨W.heap.size + 1 + 2, 0, none⟩), .pointer (some ⟨W.heap.size + 1, 0, none⟩), .pointer (some ⟨W.heap.size + 1 + 1, 0, none⟩)]) := (blk_cell hit 0).trans rfl
    have hopV := (hb6.block _ (by omega)).trans ((hb4.block _ (by omega)).trans hop3)
    have HE := Aside0.mk (And.intro hs2 (And.intro hs3 (And.intro e5 e6)))
    clear z2' z3' c0 c1 c2 c3 c4 c5 c6 hs2 hs3 e5 e6
    gi_wp2_with fail
    obtain ⟨hs2, hs3, e5, e6⟩ := HE.out
    clear HE
    generalize (W4.alloc (.cells #[.slice Aw want.length cw] 25)).alloc (.cells #[.int .i64 0] 3) = V at *
    obtain ⟨n6, nb, ns⟩ := HN.out
    obtain ⟨ho, hR, hT⟩ := HL.out
    have hI := HI.out
    have hbV : Below W.heap.size W V := (hbW3.trans (hb4.mono (by omega))).trans (hb6.mono (by omega))
    obtain ⟨p, hp⟩ : ∃ p : ScP, p = ⟨order, w, w.heap.size, w.heap.size + 1 + 3, w1.heap.size, W.heap.size, W4.heap.size, okA, ⟨kd, other, k, k2, v, ii, beyond⟩, Aw, cw, l, Ds⟩ := ⟨_, rfl⟩
    have hpw : p.want = want := by rw [hp]; exact HWANT.out
    have hOK : p.OK := by
      rw [hp]
      exact ⟨Nat.le_refl _, hI.h1, hI.h2, blk_lt ho, by show W.heap.size + 5 ≤ W4.heap.size; omega, n6, nb, ns⟩
    have hSc : Sc p 0 l V := by
      have hrow : k59.R 59 V 0 p.okw (.slice Aw p.want.length cw) p.want := by
        rw [hpw, hp]
        exact Kd.R_below (Kd.R_lower (Kd.R_mono (Kd.R_bound hR4) (fun j hj => ⟨by have := hj.2.1; show W.heap.size + 5 ≤ j; omega, hj.2.2.1⟩)) (Nat.zero_le _)) hb6
      have hlt4 : ∀ j, p.okI j → j < W.heap.size + 4 := fun j hj => by
        have := hOK.okI_lt4 j hj
        rw [hp] at this
        exact this
      rw [hp] at hrow hpw hlt4 ⊢
      refine ⟨hI.below.trans (hbV.mono hI.below.size), by show W4.heap.size + 2 ≤ V.heap.size; omega, (hbV.block _ (blk_lt hI.ans)).trans hI.ans, hopV, ?_, ?_, hq3, hrow, ?_, ?_, ?_, ?_⟩
      · show _ = _
        rw [show W.heap.size + 4 = W2.heap.size by omega]
        exact hit
      · rw [show (ScP.want _) = want from hpw]
        exact hq2
      · exact ((IterAt.kept hI2 (fun j hj => hb3.block j (by have := hlt4 j hj; omega))).kept (fun j hj => hb4.block j (by have := hlt4 j hj; omega))).kept (fun j hj => hb6.block j (by have := hlt4 j hj; omega))
      · exact ⟨_, (hbV.block _ (blk_lt ho)).trans ho, Kd.R_below (Kd.R_mono (Kd.R_bound hR) (fun j hj => .inl ⟨hj.1, hj.2.2.1⟩)) hbV⟩
      · exact (hT.imp (fun j hj hlt => .inl ⟨hj, hlt⟩)).below hbV
      · exact fun D hD => ⟨(Array.getElem?_eq_some_iff.1 (hI.marks D hD).2).1, (hbV.block _ (Array.getElem?_eq_some_iff.1 (hI.marks D hD).2).1).trans (hI.marks D hD).2⟩
    have hsc0 : ScList ks.length (2097152 + i + 1) want [] l := by
      have h1 := HZ.out
      rw [← HWANT.out]
      exact sc_start hT.sorted h1.1 (fun y hy => by have := h1.2 y hy; omega)
    have hws : SortedK (keysOf want) := by rw [← HWANT.out]; exact scanL_sorted hT.sorted
    have hwz : ∀ y ∈ want, y.f0.size ≤ 2097152 + i := fun y hy => by
      rw [← HWANT.out] at hy
      exact HZ.out.2 y (scanL_sub _ _ _ y hy)
    have HSC0 := Aside0.mk (And.intro hsc0 (And.intro hws hwz))
    have HP := Aside0.mk (And.intro hp (And.intro hpw (And.intro hOK hSc)))
    have hL := HZ.out.1
    have HDS := Aside0.mk (And.intro (fun D hD => (hI.marks D hD).1 : ∀ D ∈ Ds, w.heap.size ≤ D) (And.intro hI.nodup (And.intro hI.h1 hI.h2)))
    clear hsc0 hws hwz hSc hI hR hT ho hbV hb6 hq2 hq3 hn3 hop3 hopV hbW3 hb3 hI2 hb4 hR4 hit x11 HS3 HSC HL HI HZ HN HWANT n6 nb ns
    obtain ⟨hp, hpw, hOK, hSc⟩ := HP.out
    have HFA : Aside0 (∀ W' k' cur, Sc p k' cur W' → (W'.cell? ⟨W4.heap.size + 1, 0, none⟩ = some (.int .i64 (k' : Nat)) ∧ W'.frozen? ⟨W4.heap.size + 1, 0, none⟩ = false) ∧ W'.cell? ⟨W4.heap.size, 0, none⟩ = some (.slice Aw want.length cw) ∧ W'.cell? ⟨W.heap.size, 4, none⟩ = some (.int .i64 v) ∧ W'.cell? ⟨W.heap.size, 5, none⟩ = some (.int .i64 ii) ∧ W'.cell? ⟨W2.heap.size, 0, none⟩ = some (.func (.func 46) #[] #[.pointer (some ⟨W.heap.size + 1 + 2, 0, none⟩), .pointer (some ⟨W.heap.size + 1, 0, none⟩), .pointer (some ⟨W.heap.size + 1 + 1, 0, none⟩)]) ∧ (W'.cell? ⟨w.heap.size, 0, none⟩ = some (.bool false) ∧ W'.frozen? ⟨w.heap.size, 0, none⟩ = false) ∧ k59.R 59 W' 0 p.okw (.slice Aw want.length cw) want) := ⟨fun W' k' cur h => by
      have h1 := h.wn
      have h2 := h.it
      have h3 := h.row
      have h4 := h.num
      have h5 := h.op
      have h6 := h.ans
      rw [hpw] at h1 h3
      rw [hp] at h1 h2 h3 h4 h5 h6 ⊢
      have h2' : W'.heap[W2.heap.size]? = some (.cells #[(.func (.func 46) #[] #[.pointer (some ⟨W.heap.size + 1 + 2, 0, none⟩), .pointer (some ⟨W.heap.size + 1, 0, none⟩), .pointer (some ⟨W.heap.size + 1 + 1, 0, none⟩)])] 55 (0, 0)) := by rw [show W2.heap.size = W.heap.size + 4 by omega]; exact h2
      exact ⟨⟨(blk_cell h4 0).trans rfl, blk_frozen h4 0⟩, (blk_cell h1 0).trans rfl, (blk_cell h5 4).trans rfl, (blk_cell h5 5).trans rfl, (blk_cell h2' 0).trans rfl, ⟨(blk_cell h6 0).trans rfl, blk_frozen h6 0⟩, h3⟩⟩
    have HCO : Aside0 (∀ W' k' cur, Sc p k' cur W' → Sc p (k' + 1) cur (W'.setCell ⟨W4.heap.size + 1, 0, none⟩ (.int .i64 ((k' : Nat) + 1))) ∧ KeptIn p.okI W' (W'.setCell ⟨W4.heap.size + 1, 0, none⟩ (.int .i64 ((k' : Nat) + 1)))) := ⟨fun W' k' cur h => by
      have := h.count hOK
      rw [hp] at this ⊢
      exact this⟩
    have HCH : Aside0 (∀ W' k' cur, Sc p k' cur W' → ∀ (kd x i : Int) (kk k2 : ByteArray) (other beyond : Bool), kk.size ≤ 281474976710656 → cur.length < 1073741824 →
        Calls Try.prog 21 #[.pointer (some ⟨w1.heap.size, 0, none⟩), .agg #[.int .i64 kd, .bool other, .string kk, .string k2, .int .i64 x, .int .i64 i, .bool beyond]] W' fun e w' => e = .returned (.bool true) ∧ Sc p k' (chL cur kd kk x) w' ∧ KeptIn p.okI W' w' ∧ KeepsFrom V.heap.size W' w') := ⟨fun W' k' cur h kd x i kk k2 other beyond h1 h2 => by
      have hb : ∀ A B : World, KeepsFrom (p.q12 + 2) A B → KeepsFrom V.heap.size A B := fun A B hk => ⟨hk.size, fun k o hB ho hc => hk.same k o (by rw [hp]; show W4.heap.size + 2 ≤ k; omega) ho hc⟩
      have := (h.change hOK kd x i kk k2 other beyond h1 h2)
      have hs : p.s = w1.heap.size := by rw [hp]
      rw [hs] at this
      exact this.mono (fun e w' ⟨a1, a2, a3, a4⟩ => ⟨a1, a2, a3, hb _ _ a4⟩)⟩
    have HIS : Aside0 (∀ W' k' cur n, Sc p k' cur W' → SeqStopsK Fence.wide n Try.prog 46 #[.pointer (some ⟨W.heap.size + 1 + 2, 0, none⟩), .pointer (some ⟨W.heap.size + 1, 0, none⟩), .pointer (some ⟨W.heap.size + 1 + 1, 0, none⟩)] (fun x : S59 => #[.string x.f0, .int .i64 x.f1]) (KeptIn p.okI) (fun ys => ys = want) (fun pre => pre <+: want) want.length W') := ⟨fun W' k' cur n h => by
      have hi := iter_stops h.iter (fun j hj => by have := hOK.okI_lt j hj; have := h.size; omega) n
      have e : scanL p.op.k p.op.k2 p.l0 = want := hpw
      rw [e] at hi
      rw [hp] at hi ⊢
      exact hi⟩
    have HOI : Aside0 (∀ j, p.okI j → j < V.heap.size) := ⟨fun j hj => by have := hOK.okI_lt j hj; have := hSc.size; omega⟩
    have HNX : Aside0 (∀ W' W'' k' cur, Sc p k' cur W' → Below W'.heap.size W' W'' → Sc p k' cur W'') := ⟨fun W' W'' k' cur h hb => h.next_world hOK hb⟩
    have HFR : Aside0 (∀ W' W'' k' cur row, Sc p k' cur W' → W'.grownBy W'' row → (∀ r, row = some r → V.heap.size ≤ r ∧ ∃ o : Obj, W'.heap[r]? = some o ∧ o.isCells = false) → Sc p k' cur W'') := ⟨fun W' W'' k' cur row h hg hr => h.far hOK hg (fun r e => ⟨by have := (hr r e).1; have := hSc.size; omega, (hr r e).2⟩)⟩
    have HAS : Aside0 (∀ W' k' cur, Sc p k' cur W' → cur.length ≤ ks.length → Calls Try.prog 19 #[.pointer (some ⟨w1.heap.size, 0, none⟩), .agg #[.int .i64 8, .bool false, .string ⟨#[]⟩, .string ⟨#[]⟩, .int .i64 0, .int .i64 0, .bool false], .int .i64 (order : Nat)] W' fun e w' => e = .returned (.bool true) ∧ Below W'.heap.size W' w') := ⟨fun W' k' cur h hle => by
      obtain ⟨lv2, ho2, hR2⟩ := h.one
      obtain ⟨A3, c3, rfl, hc3, hC3⟩ := Kd.R_reads hR2
      have hT3 := h.tree.tl (fun hb => (hOK.okN_ne _ hb).2.1 rfl)
      rw [hp] at ho2 hT3
      exact asks_nodes h3 h4 hT3 (by omega) ((blk_cell ho2 0).trans rfl) ((blk_cell ho2 1).trans rfl) hC3 hc3 _ _ _ _ _ _⟩
    have HBK : Aside0 (∀ W' W'' D k' cur pre, Sc p k' cur W' → ScList ks.length (2097152 + i + 1) want pre cur → V.heap.size ≤ D → W'.heap[D]? = some (.deferred (some [])) → Below W'.heap.size W' W'' → ScOp order w.heap.size (w.heap.size + 1 + 3) w1.heap.size w ks.length (2097152 + (i + 1)) (D :: Ds) W'') := ⟨fun W' W'' D k' cur pre h hl9 hD hd hb => by
      have h2 := h.next_world hOK hb
      obtain ⟨lv2, ho2, hR2⟩ := h2.one
      have n6 : ¬ p.okN p.q6 := fun hh => by
        have := hOK.h1; have := hOK.h2; have := hOK.h3; have := hOK.h4
        rcases hh with hh | hh
        · exact hOK.n6 hh.1
        · omega
      have nb : ¬ p.okN p.bt := fun hh => (hOK.okN_ne _ hh).2.1 rfl
      have ns : ¬ p.okN p.s := fun hh => (hOK.okN_ne _ hh).1 rfl
      have hT3 := h2.tree
      have hans := h2.ans
      have hbl := h2.below
      have hmk := h2.marks
      have hds : p.Ds = Ds := by rw [hp]
      have ha0 : p.a0 = W.heap.size := by rw [hp]
      have hsz := hSc.size
      have hq := hOK.h4
      have hd2 := (hb.block _ (Array.getElem?_eq_some_iff.1 hd).1).trans hd
      obtain ⟨d1, d2, d3, d4⟩ := HDS.out
      rw [hds] at hmk
      have hVw : w.heap.size ≤ V.heap.size := by
        have := hSc.below.size
        rw [hp] at this
        exact this
      have hVa : p.q12 + 2 ≤ V.heap.size := hSc.size
      have hne : ∀ E ∈ Ds, E < V.heap.size := fun E hE => by have := (hmk E hE).1; omega
      generalize p.okN = okN at *
      rw [hp] at ho2 hT3 hans hbl n6 nb ns
      refine ⟨hbl, Nat.le_refl _, d3, d4, hans, ⟨cur, lv2, okN, n6, nb, ns, ho2, hR2, hT3, hl9.2.2.1, fun y hy => by have := hl9.2.2.2 y hy; omega⟩, fun E hE => ?_, List.nodup_cons.2 ⟨fun hh => by have := hne D hh; omega, d2⟩⟩
      rcases List.mem_cons.1 hE with rfl | hE
      · exact ⟨Nat.le_trans hVw hD, hd2⟩
      · exact ⟨d1 E hE, (hmk E hE).2⟩⟩
    have HSc := Aside0.mk hSc
    have HE7 := Aside0.mk (And.intro hs2 (And.intro hs4 (And.intro e6 hs3)))
    clear hp hpw hOK hSc HP hs2 hs3 hs4 e5 e6
    refine range_H (F := Fence.wide) rfl (by omega) (gf := 46) (lb := #[.pointer (some ⟨W.heap.size + 1 + 2, 0, none⟩), .pointer (some ⟨W.heap.size + 1, 0, none⟩), .pointer (some ⟨W.heap.size + 1 + 1, 0, none⟩)]) rfl trivial (enters_of Try.func46 (by kernel_rfl) rfl)
      (HIS.out V 0 l _ HSc.out) (KeptIn.refl _) KeptIn.trans (keptIn_b HOI.out) (fun _ => rfl)
      (fun pre W' => ∃ cur, Sc p pre.length cur W' ∧ ScList ks.length (2097152 + i + 1) want pre cur)
      (fun c pre W' => (c = .ret ∧ ¬ pre <+: want) ∨ (c = .exit 2 ∧ (∃ cur, Sc p pre.length cur W' ∧ ScList ks.length (2097152 + i + 1) want pre cur) ∧ ((pre.length : Nat) : Int) = ii))
      ?hI ?hIx ⟨l, HSc.out, HSC0.out.1⟩ (fun T x => (((T.setIfInBounds 56 (.string x.f0)).setIfInBounds 57 (.int .i64 x.f1)).setIfInBounds 14 (.string x.f0)).setIfInBounds 15 (.int .i64 x.f1)) ?assign ?body ?done ?stop
    case hI =>
      rintro s A B row ⟨cur, h1, h2⟩ hg hr
      exact ⟨cur, HFR.out _ _ _ _ _ h1 hg hr, h2⟩
    case hIx =>
      rintro cc s A B row (h1 | ⟨e, ⟨cur, h1, h2⟩, h3⟩) hg hr
      · exact .inl h1
      · exact .inr ⟨e, ⟨cur, HFR.out _ _ _ _ _ h1 hg hr, h2⟩, h3⟩
    case assign =>
      intro lp x W' K hK
      gi_wp2_with fail
      exact hK
    case body =>
      rintro lp pre x W' hlp ⟨rec, hrec⟩ ⟨cur, hS, hL2⟩ hlen
      obtain ⟨⟨a0, a1⟩, a2, a3, a4, a5, ⟨a6, a7⟩, hR⟩ := HFA.out _ _ _ hS
      obtain ⟨ad2, rfl, g0, g1⟩ := PTreeRanks.at_T59 (Kd.R_reads' hR).2.2 pre.length (by omega) (by omega)
      rw [rd_eq want pre.length hlen, Int.toNat_natCast] at g0 g1
      have p0 : ((0 : Int) ≤ ((pre.length : Nat) : Int)) = True := eq_true (by omega)
      have p1 : (((pre.length : Nat) : Int) < ((want.length : Nat) : Int)) = True := eq_true (by omega)
      have b1 : decide (((want.length : Nat) : Int) ≤ ((pre.length : Nat) : Int)) = false := decide_eq_false (by omega)
      have n1 : (want.length ≤ pre.length) = False := eq_false (by omega)
      have n2 : pre.length + 1 < 9223372036854775807 := by omega
      have HPX : Aside0 (pre ++ [x] <+: want ↔ want[pre.length] = x) := ⟨by
        obtain ⟨z, hz⟩ := hL2.1
        subst hz
        rw [List.prefix_append_right_inj, List.getElem_append_right (Nat.le_refl _)]
        cases z with
        | nil => simp at hlen
        | cons y z => simp [List.cons_prefix_cons, eq_comm]⟩
      have HS := Aside0.mk hS
      have HL2 := Aside0.mk hL2
      clear hR hS hL2
      simp only [List.setIfInBounds_toArray, List.set_cons_succ, List.set_cons_zero]
      by_cases hx : want[pre.length] = x
      · have hy : want[pre.length] = x := hx
        rw [hx] at g0 g1
        obtain ⟨hSn, hKn⟩ := HCO.out _ _ _ HS.out
        have HSn := Aside0.mk hSn
        have HKn := Aside0.mk hKn
        have HX := Aside0.mk hx
        clear hx hy HPX hSn hKn
        obtain ⟨xk, xv⟩ := x
        have hxz : xk.size ≤ 2097152 + i := HSC0.out.2.2 ⟨xk, xv⟩ (by rw [← HX.out]; exact List.getElem_mem _)
        have hz9 : (9223372036854775807 < xk.size + 1) = False := eq_false (by omega)
        have hcl2 := HL2.out.2.2.1
        have hkz9 : (xk ++ (⟨#[43]⟩ : ByteArray)).size = xk.size + 1 := by rw [ByteArray.size_append]; rfl
        have HPUT := Aside0.mk (HCH.out _ _ _ HSn.out 0 v 0 (xk ++ ⟨#[43]⟩) ⟨#[]⟩ false false (by rw [hkz9]; omega) (by omega))
        have HKZ := Aside0.mk hkz9
        clear hkz9 hcl2
        gi_wp2_with fail
        refine ⟨trivial, (CallsIn.inRound lp (callsIn_wide.2 HPUT.out)).mono ?_⟩
        rintro e W2' ⟨rfl, hS2, hK2, hF2⟩
        have hcl3 := chL_length cur 0 v (xk ++ ⟨#[43]⟩)
        have hcl4 := HL2.out.2.2.1
        have HDEL := Aside0.mk (HCH.out _ _ _ hS2 1 0 0 xk ⟨#[]⟩ false false (by omega) (by omega))
        have HK2 := Aside0.mk (HKn.out.trans hK2)
        have HF2 := Aside0.mk (((KeepsOthers.setCell _ _ _).from _).trans hF2)
        clear hS2 hK2 hF2 HPUT hcl3 hcl4 HKn a0 a1 a2 a3 a4 a5 a6 a7 g0 g1
        gi_wp2_with fail
        refine ⟨trivial, (CallsIn.inRound lp (callsIn_wide.2 HDEL.out)).mono ?_⟩
        rintro e W3' ⟨rfl, hS3, hK3, hF3⟩
        have hcur : chL (chL cur 0 (xk ++ ⟨#[43]⟩) v) 1 xk 0 = delL (insL cur (xk ++ ⟨#[43]⟩) v) xk := by
          unfold chL
          rw [if_pos rfl, if_neg (by decide)]
        rw [hcur] at hS3
        have hL3 := sc_step HL2.out hlen HX.out HSC0.out.2.1 HSn.out.tree.sorted (xk ++ ⟨#[43]⟩) (by rw [HKZ.out]; omega) v
        obtain ⟨⟨a0, a1⟩, a2, a3, a4, a5, ⟨a6, a7⟩, hR⟩ := HFA.out _ _ _ hS3
        have HS3 := Aside0.mk hS3
        have HL3 := Aside0.mk hL3
        have HK3 := Aside0.mk (HK2.out.trans hK3)
        have HF3 := Aside0.mk (HF2.out.trans hF3)
        have hF3r : Aside0 (W3'.heap[lp]? = some (.loop rec)) := ⟨HF3.out.same lp _ hlp hrec rfl⟩
        clear hS3 hL3 hK3 hF3 HK2 HF2 HDEL hcur hR HSn HS
        by_cases hm : ((pre.length : Nat) : Int) + 1 = ii
        · have m1 : decide (((pre.length : Nat) : Int) + 1 = ii) = true := decide_eq_true hm
          have m2 : (((pre.length : Nat) : Int) + 1 == ii) = true := by simpa using hm
          gi_wp2_with fail
          exact ⟨HF3.out, .inr ⟨rfl, ⟨_, by rw [List.length_append, List.length_singleton]; exact HS3.out, HL3.out⟩, by rw [List.length_append, List.length_singleton]; omega⟩⟩
        · have m1 : decide (((pre.length : Nat) : Int) + 1 = ii) = false := decide_eq_false hm
          have m2 : (((pre.length : Nat) : Int) + 1 == ii) = false := by simpa using hm
          have hbm := below_mk (Below.refl W3'.heap.size W3') (.cells #[.int .i64 0] 3)
          have hnm := heap_alloc_new W3' (.cells #[.int .i64 0] 3)
          have hsm : (W3'.alloc (.cells #[.int .i64 0] 3)).heap.size = W3'.heap.size + 1 := by simp
          have a5' : (W3'.alloc (.cells #[.int .i64 0] 3)).cell? ⟨W2.heap.size, 0, none⟩ = some (.func (.func 46) #[] #[.pointer (some ⟨W.heap.size + 1 + 2, 0, none⟩), .pointer (some ⟨W.heap.size + 1, 0, none⟩), .pointer (some ⟨W.heap.size + 1 + 1, 0, none⟩)]) := pw_cell_below hbm a5
          have hrec3 := hF3r.out
          have hlrec : (W3'.alloc (.cells #[.int .i64 0] 3)).heap[lp]? = some (.loop rec) := (hbm.block _ (Array.getElem?_eq_some_iff.1 hrec3).1).trans hrec3
          have HM := Aside0.mk (And.intro hbm (And.intro hnm hsm))
          have HSM := Aside0.mk (HNX.out _ _ _ _ HS3.out hbm)
          have hV3 : V.heap.size ≤ W3'.heap.size := by
            have h1 := HF3.out.size
            exact Nat.le_trans (by have := (Array.getElem?_eq_some_iff.1 hrec).1; omega) h1
          clear hbm hnm hsm hrec3
          gi_wp2_with fail
          clear a0 a1 a2 a3 a4 a5 a5' a6 a7
          obtain ⟨hbm, hnm, hsm⟩ := HM.out
          clear HM
          generalize (W3'.alloc (.cells #[.int .i64 0] 3)) = W4' at *
          have hq4 : ∀ j, p.okI j → j < W3'.heap.size := fun j hj => Nat.lt_of_lt_of_le (HOI.out j hj) hV3
          refine range_N (l₀ := lp) (r₀ := rec) rfl hlrec (by omega) (gf := 46) (lb := #[.pointer (some ⟨W.heap.size + 1 + 2, 0, none⟩), .pointer (some ⟨W.heap.size + 1, 0, none⟩), .pointer (some ⟨W.heap.size + 1 + 1, 0, none⟩)]) rfl trivial (enters_of Try.func46 (by kernel_rfl) rfl)
            ((HIS.out W4' _ _ _ HSM.out).inRound lp) (KeptIn.refl _) KeptIn.trans (keptIn_b (fun j hj => by have := hq4 j hj; omega)) (fun _ => rfl)
            (fun pre' W'' => W''.heap[W3'.heap.size]? = some (.cells #[.int .i64 (pre'.length : Nat)] 3 (0, 0)) ∧ Below W3'.heap.size W3' W'')
            (fun _ _ _ => False) ?hI2 (fun _ _ _ _ _ hs _ _ => hs) ⟨hnm, hbm⟩ (fun T y => ((#[96, 97] : Array Nat).zip #[.string y.f0, .int .i64 y.f1]).foldl (fun t (p, v) => t.setIfInBounds p v) T) ?assign2 ?body2 ?done2 ?stop2
          case hI2 =>
            rintro s' A' B' row ⟨h1, h2⟩ hg hr
            refine ⟨(hg.block _ (blk_lt h1) (fun e => ?_)).trans h1, h2.grown hg (Nat.le_of_lt (blk_lt h1)) (fun r e => by have := (hr r e).1; omega)⟩
            have := (hr _ e.symm).1
            omega
          case assign2 =>
            intro l2 y W'' K hK
            exact wpIn_skip hK
          case stop2 =>
            intro cc pre' W'' _ h
            exact h.elim
          case body2 =>
            rintro l2 pre' y W'' hl2 _ ⟨h1, h2⟩ hlen2
            have w0 : W''.cell? ⟨W3'.heap.size, 0, none⟩ = some (.int .i64 (pre'.length : Nat)) := (blk_cell h1 0).trans rfl
            have wf : W''.frozen? ⟨W3'.heap.size, 0, none⟩ = false := blk_frozen h1 0
            have n3 : pre'.length + 1 < 9223372036854775807 := by omega
            have H1 := Aside0.mk (And.intro h1 h2)
            clear h1 h2
            gi_wp2_with fail
            obtain ⟨h1, h2⟩ := H1.out
            refine ⟨(KeepsOthers.setCell _ _ _).from _, fun j hj => Below.heap_setCell W'' ⟨W3'.heap.size, 0, none⟩ _ j (show j ≠ W3'.heap.size by have := hq4 j hj; omega), ?_, h2.setCell (p := ⟨W3'.heap.size, 0, none⟩) (Nat.le_refl _) _⟩
            rw [List.length_append, List.length_singleton]
            exact (blk_set h1 0 _).trans rfl
          case done2 =>
            rintro ys W'' hys ⟨h1, h2⟩
            subst hys
            have hS4 := HNX.out _ _ _ _ HS3.out h2
            obtain ⟨⟨a0, a1⟩, a2, a3, a4, a5, ⟨a6, a7⟩, hR⟩ := HFA.out _ _ _ hS4
            have w0 : W''.cell? ⟨W3'.heap.size, 0, none⟩ = some (.int .i64 (ys.length : Nat)) := (blk_cell h1 0).trans rfl
            have HS4 := Aside0.mk hS4
            have H2 := Aside0.mk h2
            clear hS4 h1 h2 hR
            gi_wp2_with fail
            refine ⟨HF3.out.trans (keepsFrom_below H2.out), HK3.out.trans (fun j hj => H2.out.block j (hq4 j hj)), _, ?_, HL3.out⟩
            rw [List.length_append, List.length_singleton]
            exact HS4.out
      · have HP9 := Aside0.mk (fun h => hx (HPX.out.1 h))
        generalize want[pre.length] = y at *
        obtain ⟨xk, xv⟩ := x
        obtain ⟨yk, yv⟩ := y
        replace g0 : _ = some (Value.string yk) := g0
        replace g1 : _ = some (Value.int .i64 yv) := g1
        by_cases hk : yk = xk
        · subst hk
          have hv : yv ≠ xv := fun e => hx (by rw [e])
          have m1 : decide (yv = xv) = false := decide_eq_false hv
          have m2 : (yv == xv) = false := by simpa using hv
          have m3 : (yv != xv) = true := by simpa using hv
          gi_wp2_with fail
          exact ⟨(KeepsOthers.setCell _ _ _).from _, .inl ⟨rfl, HP9.out⟩⟩
        · have m1 : (yk.toList = xk.toList) = False := eq_false (fun e => hk (toList_inj e))
          gi_wp2_with fail
          exact ⟨(KeepsOthers.setCell _ _ _).from _, .inl ⟨rfl, HP9.out⟩⟩
    case done =>
      rintro D ys W' hD hys ⟨cur, hS, hL2⟩ hK
      have hyl : ys.length = want.length := by rw [hys]
      obtain ⟨⟨a0, a1⟩, a2, a3, a4, a5, ⟨a6, a7⟩, hR⟩ := HFA.out _ _ _ hS
      rw [hyl] at a0
      have HA9 := Aside0.mk (HAS.out _ _ _ hS hL2.2.2.1)
      have HB9 := Aside0.mk (fun W'' => HBK.out W' W'' D _ _ _ hS hL2 hD hK)
      clear hS hL2 hK hR
      gi_wp2_with fail
      refine ⟨trivial, (callsIn_wide.2 HA9.out).mono ?_⟩
      rintro e W9 ⟨rfl, hb9⟩
      have HI9 := Aside0.mk (HB9.out W9 hb9)
      clear hb9 HA9 HB9 a0 a1 a2 a3 a4 a5 a6 a7
      gi_wp2_with fail
      refine ⟨⟨_, _, _, _, _, _, _, _, _, _, _, _, _, _, _, _, _, _, _, _, _, _, _, _, _, _, _, _, _, _, _, _, _, _, _, _, _, _, _, _, _, _, _, _, _, _, _, _, _, _, _, _, _, _, _, _, _, _, _, _, _, _, _, _, _, _, _, _, _, _, _, _, _, _, _, _, _, _, _, _, _, _, _, _, _, _, _, _, i + 1, D :: Ds, rfl, by omega, HI9⟩, ?_⟩
      show ops.length - (i + 1) < ops.length - i
      omega
    case stop =>
      rintro D cc pre W' hD hpre hx hK
      rcases hx with ⟨rfl, hx⟩ | ⟨rfl, ⟨cur, hS, hL2⟩, hii⟩
      · exact absurd hpre hx
      · obtain ⟨⟨a0, a1⟩, a2, a3, a4, a5, ⟨a6, a7⟩, hR⟩ := HFA.out _ _ _ hS
        have HA9 := Aside0.mk (HAS.out _ _ _ hS hL2.2.2.1)
        have HB9 := Aside0.mk (fun W'' => HBK.out W' W'' D _ _ _ hS hL2 hD hK)
        subst hii
        clear hS hL2 hK hR
        by_cases hw : pre.length = want.length
        · gi_wp2_with fail
          refine ⟨trivial, (callsIn_wide.2 HA9.out).mono ?_⟩
          rintro e W9 ⟨rfl, hb9⟩
          have HI9 := Aside0.mk (HB9.out W9 hb9)
          clear hb9 HA9 HB9 a0 a1 a2 a3 a4 a5 a6 a7
          gi_wp2_with fail
          refine ⟨⟨_, _, _, _, _, _, _, _, _, _, _, _, _, _, _, _, _, _, _, _, _, _, _, _, _, _, _, _, _, _, _, _, _, _, _, _, _, _, _, _, _, _, _, _, _, _, _, _, _, _, _, _, _, _, _, _, _, _, _, _, _, _, _, _, _, _, _, _, _, _, _, _, _, _, _, _, _, _, _, _, _, _, _, _, _, _, _, _, i + 1, D :: Ds, rfl, by omega, HI9⟩, ?_⟩
          show ops.length - (i + 1) < ops.length - i
          omega
        · gi_wp2_with fail
          refine ⟨trivial, (callsIn_wide.2 HA9.out).mono ?_⟩
          rintro e W9 ⟨rfl, hb9⟩
          have HI9 := Aside0.mk (HB9.out W9 hb9)
          clear hb9 HA9 HB9 a0 a1 a2 a3 a4 a5 a6 a7
          gi_wp2_with fail
          refine ⟨⟨_, _, _, _, _, _, _, _, _, _, _, _, _, _, _, _, _, _, _, _, _, _, _, _, _, _, _, _, _, _, _, _, _, _, _, _, _, _, _, _, _, _, _, _, _, _, _, _, _, _, _, _, _, _, _, _, _, _, _, _, _, _, _, _, _, _, _, _, _, _, _, _, _, _, _, _, _, _, _, _, _, _, _, _, _, _, _, _, i + 1, D :: Ds, rfl, by omega, HI9⟩, ?_⟩
          show ops.length - (i + 1) < ops.length - i
          omega
  · have q1 : decide (((i : Nat) : Int) < ((ops.length : Nat) : Int)) = false := decide_eq_false (by omega)
    have y0 : W.cell? ⟨w.heap.size, 0, none⟩ = some (.bool false) := (blk_cell hI.ans 0).trans rfl
    have yf : W.frozen? ⟨w.heap.size, 0, none⟩ = false := blk_frozen hI.ans 0
    have HI := Aside0.mk hI
    clear hI
    gi_wp2_with fail
    refine leaves_marks w.heap.size (.bool true) w ?_ Ds _ HI.out.nodup (fun D hD => ⟨(HI.out.marks D hD).1, ?_⟩) (World.cell?_setCell_same' _ _ _ (by rw [y0]; rfl)) (HI.out.below.setCell (p := ⟨w.heap.size, 0, none⟩) (Nat.le_refl _) _)
    · intro W2 hc2 hb2
      exact ⟨.bool true, by simp [results, Try.f6, go_sem, hc2], rfl, hb2⟩
    · refine (Below.heap_setCell W ⟨w.heap.size, 0, none⟩ _ D (fun e => ?_)).trans (HI.out.marks D hD).2
      have h1 := (HI.out.marks D hD).2
      have e : D = w.heap.size := e
      rw [e, HI.out.ans] at h1
      cases h1

set_option maxRecDepth 100000 in
set_option maxHeartbeats 8000000 in
theorem scans_bad (order : Int) (h : order < 3 ∨ 64 < order) (v v2 : Value) (w : World) :
    Calls Try.prog 6 #[.int .i64 order, v, v2] w fun e w' => e = .returned (.bool true) ∧ Below w.heap.size w w' := by
  have hbA := below_mk (Below.refl w.heap.size w) (.cells #[.bool false] 4)
  have hnA := heap_alloc_new w (.cells #[.bool false] 4)
  have HLV := Aside0.mk (live_calls (w.alloc (.cells #[.bool false] 4)))
  have HA := Aside0.mk (And.intro hbA hnA)
  clear hbA hnA
  rcases h with h | h
  · have b1 : decide (order < 3) = true := decide_eq_true h
    go_enter Try.func6, Try.ntmps6
    go_wp2_with fail
    refine HLV.out.mono ?_
    rintro e w2 ⟨rfl, hb2⟩
    have hq := (hb2.block _ (by simp)).trans HA.out.2
    have y0 : w2.cell? ⟨w.heap.size, 0, none⟩ = some (.bool false) := (blk_cell hq 0).trans rfl
    have yf : w2.frozen? ⟨w.heap.size, 0, none⟩ = false := blk_frozen hq 0
    have HB := Aside0.mk (HA.out.1.trans (hb2.mono (by simp)))
    clear hb2 hq HLV HA
    go_wp2_with fail
    have y2 := World.cell?_setCell_same' w2 ⟨w.heap.size, 0, none⟩ (.bool true) (by rw [y0]; rfl)
    refine bodyPost_ret (v := .bool true) (by simp [results, Try.results6, go_sem, y2]) rfl ?_
    exact ⟨rfl, HB.out.setCell (p := ⟨w.heap.size, 0, none⟩) (Nat.le_refl _) _⟩
  · have b1 : decide (order < 3) = false := decide_eq_false (by omega)
    have b2 : decide ((64 : Int) < order) = true := decide_eq_true h
    go_enter Try.func6, Try.ntmps6
    go_wp2_with fail
    refine HLV.out.mono ?_
    rintro e w2 ⟨rfl, hb2⟩
    have hq := (hb2.block _ (by simp)).trans HA.out.2
    have y0 : w2.cell? ⟨w.heap.size, 0, none⟩ = some (.bool false) := (blk_cell hq 0).trans rfl
    have yf : w2.frozen? ⟨w.heap.size, 0, none⟩ = false := blk_frozen hq 0
    have HB := Aside0.mk (HA.out.1.trans (hb2.mono (by simp)))
    clear hb2 hq HLV HA
    go_wp2_with fail
    have y2 := World.cell?_setCell_same' w2 ⟨w.heap.size, 0, none⟩ (.bool true) (by rw [y0]; rfl)
    refine bodyPost_ret (v := .bool true) (by simp [results, Try.results6, go_sem, y2]) rfl ?_
    exact ⟨rfl, HB.out.setCell (p := ⟨w.heap.size, 0, none⟩) (Nat.le_refl _) _⟩
end Go.Proofs.Ytjabcdfbncglnaa
