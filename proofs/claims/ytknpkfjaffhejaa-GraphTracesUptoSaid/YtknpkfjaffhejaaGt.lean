/- WHAT IS PROVED: GraphTraces answers true at edges. -/
import Derived.Test.YtknpkfjaffhejaaPg
import Derived.Test.YtknpkfjaffhejaaHs
import Derived.Test.YtknpkfjaffhejaaSd
import Derived.Test.YtknpkfjaffhejaaBg
import Derived.Test.YtknpkfjaffhejaaSf
namespace Go.Proofs.Ytknpkfjaffhejaa
open Go.RowKit Go.Sort Go.Lib Go.Proofs.YtknpkfjaffhejaaW.PrintWords Go.Proofs.YtknpkfjaffhejaaW.PrintLast Go.Proofs.YtknpkfjaffhejaaW.PrintMore
set_option linter.unusedVariables false
set_option linter.unusedSimpArgs false

theorem EdR.take {n0 : Nat} {W : World} {A : Option Addr} {n c c' : Nat} {l : List Edge} (h : EdR n0 W (.slice A n c) l) (m : Nat) (hm : m ≤ l.length) : EdR n0 W (.slice A m c') (l.take m) := by
  obtain ⟨A', c1, e, hA⟩ := h
  injection e with e1 e2 e3
  subst e1
  refine ⟨A, c', by rw [List.length_take, Nat.min_eq_left hm], fun hl => ?_⟩
  have hl' : l ≠ [] := fun e => by subst e; simp at hl
  obtain ⟨b, off, rfl, h0, hc⟩ := hA hl'
  exact ⟨b, off, rfl, h0, fun j u hj => hc j u (flatE_take l m j u hj)⟩

theorem nodup_le {α : Type} [DecidableEq α] : ∀ (l m : List α), l.Nodup → (∀ x ∈ l, x ∈ m) → l.length ≤ m.length
  | [], m, _, _ => by simp
  | x :: r, m, hn, h => by
    rw [List.nodup_cons] at hn
    have hx := h x (by simp)
    have := nodup_le r (m.erase x) hn.2 fun y hy => (List.mem_erase_of_ne (fun e => hn.1 (by rw [← e]; exact hy))).2 (h y (by simp [hy]))
    rw [List.length_erase_of_mem hx] at this
    have hp := List.length_pos_of_mem hx
    simp only [List.length_cons]
    omega
theorem trk_len (D : List (Edge × Edge)) : (trk D).length = D.length * 2 := by
  induction D with
  | nil => rfl
  | cons x r ih => simp only [trk, List.flatMap_cons, List.length_append, List.length_cons, List.length_nil] at *; rw [ih]; omega
theorem w64 (n : Nat) (h : n < 9223372036854775808) : wrap64 (n : Int) = (n : Int) := by
  unfold wrap64
  omega

set_option maxRecDepth 100000 in
set_option maxHeartbeats 16000000 in
theorem graphTraces_calls (W : World) (A : Option Addr) (c : Nat) (l : List Edge) {m0 : Nat} (h : EdR m0 W (.slice A l.length c) l) (hlc : l.length ≤ c) (hn : l.length ≤ 1048576) (hs : ∀ e ∈ l, okE e) :
    Calls Try.prog 3 #[.slice A l.length c] W fun e W' => e = .returned (.bool true) ∧ Below W.heap.size W W' := by
  obtain ⟨k, hk⟩ : ∃ k, k = min l.length 60 := ⟨_, rfl⟩
  have hkl : k ≤ l.length := by omega
  have hk60 : k ≤ 60 := by omega
  have hmin : min ((l.length : Nat) : Int) 60 = ((k : Nat) : Int) := by omega
  have hL := h.take (c' := c) k hkl
  have hsL : ∀ e ∈ l.take k, okE e := fun e he => hs e (List.mem_of_mem_take he)
  have hll : (l.take k).length = k := by rw [List.length_take]; omega
  have hp0 : ((0 : Int) ≤ ((k : Nat) : Int)) = True := eq_true (by omega)
  have hp1 : (((k : Nat) : Int) ≤ ((c : Nat) : Int)) = True := eq_true (by omega)
  generalize l.take k = L at *
  subst hll
  obtain ⟨kk, hkk⟩ : ∃ kk, kk = L.length * L.length := ⟨_, rfl⟩
  have hk2 : kk ≤ 3600 := by rw [hkk]; exact Nat.mul_le_mul hk60 hk60
  have hmul : ((L.length : Nat) : Int) * ((L.length : Nat) : Int) = ((kk : Nat) : Int) := by rw [hkk]; exact (Int.natCast_mul _ _).symm
  have hw1 : wrap64 ((kk : Nat) : Int) = ((kk : Nat) : Int) := w64 kk (by omega)
  have hw2 : wrap64 (((kk : Nat) : Int) + 1) = ((kk : Nat) : Int) + 1 := w64 (kk + 1) (by omega)
  have hDk : (dangersE (vulE L)).length ≤ kk := by
    rw [hkk]
    exact Nat.le_trans (dang_le _) (Nat.mul_le_mul (vulE_len L) (vulE_len L))
  have H5 : Aside0 (∀ W', Calls Try.prog 5 #[] W' fun e W'' => Below W'.heap.size W' W'' ∧ e = .returned (.bool true)) := ⟨fun W' => (begun_calls W').mono fun e W'' ⟨he, hb⟩ => ⟨hb, he⟩⟩
  have H6 : Aside0 (∀ W', Below W.heap.size W W' → Calls Try.prog 6 #[.slice A L.length c, .int .i64 (((kk : Nat) : Int) + 1)] W' fun e W'' => Below W'.heap.size W' W'' ∧ ∃ A' c', e = .returned (.slice A' (dangersE (vulE L)).length c') ∧ DaR W'' (.slice A' (dangersE (vulE L)).length c') (dangersE (vulE L))) := ⟨fun W' hb => by
    refine (dangers_calls W' _ L _ (hL.below hb) (by omega) hsL).mono ?_
    have hcut : cutD (((kk : Nat) : Int) + 1) (dangersE (vulE L)) = dangersE (vulE L) := by
      unfold cutD
      rw [if_pos (by omega)]
      exact List.take_of_length_le (by omega)
    rw [hcut]
    rintro e W'' ⟨v', rfl, how, hb2⟩
    obtain ⟨A', c', rfl⟩ := owns_form how
    exact ⟨hb2, A', c', rfl, DaR.of_owns how⟩⟩
  have H7 : Aside0 (∀ W', Below W.heap.size W W' → Calls Try.prog 7 #[.slice A L.length c] W' fun e W'' => Below W'.heap.size W' W'' ∧ ∃ (T : List SI) (A' : Option Addr) (c' : Nat), e = .returned (.slice A' T.length c') ∧ SiR W'' (.slice A' T.length c') T ∧ (∀ s, s ∈ T ↔ s ∈ trk (dangersE (vulE L))) ∧ T.length ≤ 1099511627776) := ⟨fun W' hb => by
    refine (tracked_calls W' _ L (hL.below hb) (by omega) hsL).mono ?_
    rintro e W'' ⟨v', T, rfl, hr, hpw, hm, hb2⟩
    obtain ⟨A', c', rfl⟩ := hr.form
    have hnd : T.Nodup := hpw.imp fun {a b} h e => by
      subst e
      rw [cmpSite3.sto.irrefl] at h
      cases h
    have := nodup_le T _ hnd (fun x hx => (hm x).1 hx)
    rw [trk_len] at this
    exact ⟨hb2, T, A', c', rfl, hr, hm, by omega⟩⟩
  have H10 : Aside0 (∀ W', Below W.heap.size W W' → Calls Try.prog 10 #[.slice A L.length c] W' fun e W'' => Below W'.heap.size W' W'' ∧ e = .returned (.bool ((((dangersE (vulE L)).length : Nat) : Int) == 0))) := ⟨fun W' hb => (safe_calls W' _ L (hL.below hb) (by omega) hsL).mono fun e W'' ⟨he, hb2⟩ => ⟨hb2, he.trans (by congr 2; rw [Bool.eq_iff_iff]; simp)⟩⟩
  have H8 : Aside0 (∀ W' (x : Edge), Below W.heap.size W W' → x ∈ L → Calls Try.prog 8 #[.slice A L.length c, .agg (encE x).toArray] W' fun e W'' => Below W'.heap.size W' W'' ∧ e = .returned (.bool true)) := ⟨fun W' x hb hx => (hasEdge_calls W' _ L x (hL.below hb) hx (by omega)).mono fun e W'' ⟨he, hb2⟩ => ⟨hb2, he⟩⟩
  have HE : Aside0 (∀ W', Below W.heap.size W W' → EdR m0 W' (.slice A L.length c) L) := ⟨fun W' hb => hL.below hb⟩
  have HMD : Aside0 (∀ x, x ∈ dangersE (vulE L) → x.1.v = true ∧ x.2.v = true ∧ x.1.q = x.2.p ∧ x.1 ∈ L ∧ x.2 ∈ L) := ⟨fun x hx => by
    obtain ⟨h1, h2, h3⟩ := mem_dang_iff.1 hx
    obtain ⟨h4, h5⟩ := mem_vul_iff.1 h1
    obtain ⟨h6, h7⟩ := mem_vul_iff.1 h2
    exact ⟨h5, h7, h3, h4, h6⟩⟩
  have HTD : Aside0 (∀ a b, a ∈ L → b ∈ L → a.v = true → b.v = true → a.q = b.p → told (dangersE (vulE L)) a b (dangersE (vulE L)).length = 1) := ⟨fun a b h1 h2 h3 h4 h5 => told_end (dang_nodup (vul_nodup L)) (mem_dang_iff.2 ⟨mem_vul_iff.2 ⟨h1, h3⟩, mem_vul_iff.2 ⟨h2, h4⟩, h5⟩)⟩
  generalize dangersE (vulE L) = D at *
  clear h hL hsL hs hkk hk hkl
  have HDL := Aside0.mk (show D.length ≤ 3600 by omega)
  go_enter Try.func3, Try.ntmps3
  go_wp2_with (first
    | (go_at_call 5; refine (H5.out _).mono ?_; rintro e W1 ⟨hb1, rfl⟩; have HB1 := Aside0.mk hb1; clear hb1)
    | (go_at_call 6; refine (H6.out _ HB1.out).mono ?_; rintro e W2 ⟨hb2, A3, c3, rfl, hd⟩; have HB2 := Aside0.mk (And.intro (below_to HB1.out hb2) hd); clear hb2 hd)
    | (go_at_call 7; refine (H7.out _ HB2.out.1).mono ?_; rintro e W3 ⟨hb3, T, A4, c4, rfl, hr, hmT, hTL⟩; have HTL := Aside0.mk hTL; have HB3 := Aside0.mk (And.intro (below_to HB2.out.1 hb3) (And.intro (HB2.out.2.below hb3) (And.intro hr hmT))); clear hb3 hr hmT hTL))
  go_loopw [33] (fun v wr => ∃ i : Nat, v = .int .i64 (i : Nat) ∧ i ≤ D.length ∧ Aside0 (Below W3.heap.size W3 wr)) (fun v wr => D.length - (RowKit.intOf v).toNat)
  case atStart => exact ⟨0, rfl, Nat.zero_le _, ⟨Below.refl _ _⟩⟩
  case round =>
    obtain ⟨i, rfl, hi, HI⟩ := hrel
    by_cases hlt : i < D.length
    · have d1 : decide (((i : Nat) : Int) < ((D.length : Nat) : Int)) = true := decide_eq_true (by omega)
      have p0 : ((0 : Int) ≤ ((i : Nat) : Int)) = True := eq_true (by omega)
      have p1 : (((i : Nat) : Int) < ((D.length : Nat) : Int)) = True := eq_true (by omega)
      obtain ⟨_, b, off, rfl, hy⟩ := (HB3.out.2.1.below HI.out).cells i hlt
      have hxm : D[i]! ∈ D := by rw [getElem!_pos D i hlt]; exact List.getElem_mem _
      obtain ⟨f1, f2, f3, f4, f5⟩ := HMD.out _ hxm
      have hs1 : (D[i]!.1.p, D[i]!.1.n) ∈ T := (HB3.out.2.2.2 _).2 (mem_trk.2 ⟨_, hxm, .inl rfl⟩)
      have hs2 : (D[i]!.2.p, D[i]!.2.n) ∈ T := (HB3.out.2.2.2 _).2 (mem_trk.2 ⟨_, hxm, .inr rfl⟩)
      obtain ⟨⟨⟨p, n, q, m, kd, v⟩, ⟨p', n', q', m', kd', v'⟩⟩, hxe⟩ : ∃ y, D[i]! = y := ⟨_, rfl⟩
      rw [hxe] at hy f1 f2 f3 f4 f5 hs1 hs2
      clear hxe hxm
      have f1' : v = true := f1
      have f2' : v' = true := f2
      have f3' : q = p' := f3
      subst f1' f2' f3'
      have y0 : wr.cell? ⟨b, off + i * 12, none⟩ = some (.string p) := hy 0 (by omega)
      have y1 : wr.cell? ⟨b, off + i * 12 + 1, none⟩ = some (.int .i64 n) := hy 1 (by omega)
      have y2 : wr.cell? ⟨b, off + i * 12 + 2, none⟩ = some (.string q) := hy 2 (by omega)
      have y3 : wr.cell? ⟨b, off + i * 12 + 3, none⟩ = some (.int .i64 m) := hy 3 (by omega)
      have y4 : wr.cell? ⟨b, off + i * 12 + 4, none⟩ = some (.int .i64 kd) := hy 4 (by omega)
      have y5 : wr.cell? ⟨b, off + i * 12 + 5, none⟩ = some (.bool true) := hy 5 (by omega)
      have y6 : wr.cell? ⟨b, off + i * 12 + 6, none⟩ = some (.string q) := hy 6 (by omega)
      have y7 : wr.cell? ⟨b, off + i * 12 + 7, none⟩ = some (.int .i64 n') := hy 7 (by omega)
      have y8 : wr.cell? ⟨b, off + i * 12 + 8, none⟩ = some (.string q') := hy 8 (by omega)
      have y9 : wr.cell? ⟨b, off + i * 12 + 9, none⟩ = some (.int .i64 m') := hy 9 (by omega)
      have ya : wr.cell? ⟨b, off + i * 12 + 10, none⟩ = some (.int .i64 kd') := hy 10 (by omega)
      have yb : wr.cell? ⟨b, off + i * 12 + 11, none⟩ = some (.bool true) := hy 11 (by omega)
      have e1 : (q.toList != q.toList) = false := by simp
      have e2 : (q.toList == q.toList) = true := by simp
      have hst : Sem.run Try.prog (storeCells ⟨wr.heap.size, 0, none⟩ [.string p, .int .i64 n, .string q, .int .i64 m, .int .i64 kd, .bool true, .string q, .int .i64 n', .string q', .int .i64 m', .int .i64 kd', .bool true] 0) (wr.alloc (.cells #[.string ⟨#[]⟩, .int .i64 0, .string ⟨#[]⟩, .int .i64 0, .int .i64 0, .bool false, .string ⟨#[]⟩, .int .i64 0, .string ⟨#[]⟩, .int .i64 0, .int .i64 0, .bool false] 33)) = .ok () (wr.alloc (.cells #[.string p, .int .i64 n, .string q, .int .i64 m, .int .i64 kd, .bool true, .string q, .int .i64 n', .string q', .int .i64 m', .int .i64 kd', .bool true] 33)) := storeNewD wr (⟨p, n, q, m, kd, true⟩, ⟨q, n', q', m', kd', true⟩)
      have hnN := heap_alloc_new wr (.cells #[.string p, .int .i64 n, .string q, .int .i64 m, .int .i64 kd, .bool true, .string q, .int .i64 n', .string q', .int .i64 m', .int .i64 kd', .bool true] 33)
      have HBN : Aside0 (Below W3.heap.size W3 (wr.alloc (.cells #[.string p, .int .i64 n, .string q, .int .i64 m, .int .i64 kd, .bool true, .string q, .int .i64 n', .string q', .int .i64 m', .int .i64 kd', .bool true] 33))) := ⟨below_mk HI.out _⟩
      have x0 := (blk_cell hnN 0).trans (show (#[Value.string p, Value.int .i64 n, Value.string q, Value.int .i64 m, Value.int .i64 kd, Value.bool true, Value.string q, Value.int .i64 n', Value.string q', Value.int .i64 m', Value.int .i64 kd', Value.bool true])[0]? = some (.string p) from rfl)
      have x1 := (blk_cell hnN 1).trans (show (#[Value.string p, Value.int .i64 n, Value.string q, Value.int .i64 m, Value.int .i64 kd, Value.bool true, Value.string q, Value.int .i64 n', Value.string q', Value.int .i64 m', Value.int .i64 kd', Value.bool true])[1]? = some (.int .i64 n) from rfl)
      have x2 := (blk_cell hnN 2).trans (show (#[Value.string p, Value.int .i64 n, Value.string q, Value.int .i64 m, Value.int .i64 kd, Value.bool true, Value.string q, Value.int .i64 n', Value.string q', Value.int .i64 m', Value.int .i64 kd', Value.bool true])[2]? = some (.string q) from rfl)
      have x3 := (blk_cell hnN 3).trans (show (#[Value.string p, Value.int .i64 n, Value.string q, Value.int .i64 m, Value.int .i64 kd, Value.bool true, Value.string q, Value.int .i64 n', Value.string q', Value.int .i64 m', Value.int .i64 kd', Value.bool true])[3]? = some (.int .i64 m) from rfl)
      have x4 := (blk_cell hnN 4).trans (show (#[Value.string p, Value.int .i64 n, Value.string q, Value.int .i64 m, Value.int .i64 kd, Value.bool true, Value.string q, Value.int .i64 n', Value.string q', Value.int .i64 m', Value.int .i64 kd', Value.bool true])[4]? = some (.int .i64 kd) from rfl)
      have x5 := (blk_cell hnN 5).trans (show (#[Value.string p, Value.int .i64 n, Value.string q, Value.int .i64 m, Value.int .i64 kd, Value.bool true, Value.string q, Value.int .i64 n', Value.string q', Value.int .i64 m', Value.int .i64 kd', Value.bool true])[5]? = some (.bool true) from rfl)
      have x6 := (blk_cell hnN 6).trans (show (#[Value.string p, Value.int .i64 n, Value.string q, Value.int .i64 m, Value.int .i64 kd, Value.bool true, Value.string q, Value.int .i64 n', Value.string q', Value.int .i64 m', Value.int .i64 kd', Value.bool true])[6]? = some (.string q) from rfl)
      have x7 := (blk_cell hnN 7).trans (show (#[Value.string p, Value.int .i64 n, Value.string q, Value.int .i64 m, Value.int .i64 kd, Value.bool true, Value.string q, Value.int .i64 n', Value.string q', Value.int .i64 m', Value.int .i64 kd', Value.bool true])[7]? = some (.int .i64 n') from rfl)
      have x8 := (blk_cell hnN 8).trans (show (#[Value.string p, Value.int .i64 n, Value.string q, Value.int .i64 m, Value.int .i64 kd, Value.bool true, Value.string q, Value.int .i64 n', Value.string q', Value.int .i64 m', Value.int .i64 kd', Value.bool true])[8]? = some (.string q') from rfl)
      have x9 := (blk_cell hnN 9).trans (show (#[Value.string p, Value.int .i64 n, Value.string q, Value.int .i64 m, Value.int .i64 kd, Value.bool true, Value.string q, Value.int .i64 n', Value.string q', Value.int .i64 m', Value.int .i64 kd', Value.bool true])[9]? = some (.int .i64 m') from rfl)
      have xa := (blk_cell hnN 10).trans (show (#[Value.string p, Value.int .i64 n, Value.string q, Value.int .i64 m, Value.int .i64 kd, Value.bool true, Value.string q, Value.int .i64 n', Value.string q', Value.int .i64 m', Value.int .i64 kd', Value.bool true])[10]? = some (.int .i64 kd') from rfl)
      have xb := (blk_cell hnN 11).trans (show (#[Value.string p, Value.int .i64 n, Value.string q, Value.int .i64 m, Value.int .i64 kd, Value.bool true, Value.string q, Value.int .i64 n', Value.string q', Value.int .i64 m', Value.int .i64 kd', Value.bool true])[11]? = some (.bool true) from rfl)
      have HC8a : Aside0 (∀ W', Below W3.heap.size W3 W' → Calls Try.prog 8 #[.slice A L.length c, .agg #[.string p, .int .i64 n, .string q, .int .i64 m, .int .i64 kd, .bool true]] W' fun e W'' => Below W'.heap.size W' W'' ∧ e = .returned (.bool true)) := ⟨fun W' hb => H8.out W' ⟨p, n, q, m, kd, true⟩ (below_to HB3.out.1 hb) f4⟩
      have HC8b : Aside0 (∀ W', Below W3.heap.size W3 W' → Calls Try.prog 8 #[.slice A L.length c, .agg #[.string q, .int .i64 n', .string q', .int .i64 m', .int .i64 kd', .bool true]] W' fun e W'' => Below W'.heap.size W' W'' ∧ e = .returned (.bool true)) := ⟨fun W' hb => H8.out W' ⟨q, n', q', m', kd', true⟩ (below_to HB3.out.1 hb) f5⟩
      have HC9a : Aside0 (∀ W', Below W3.heap.size W3 W' → Calls Try.prog 9 #[.slice A4 T.length c4, .agg #[.string p, .int .i64 n]] W' fun e W'' => Below W'.heap.size W' W'' ∧ e = .returned (.bool true)) := ⟨fun W' hb => (hasSite_calls W' _ T (p, n) (HB3.out.2.2.1.below hb) hs1 HTL.out).mono fun e W'' ⟨he, hb2⟩ => ⟨hb2, he⟩⟩
      have HC9b : Aside0 (∀ W', Below W3.heap.size W3 W' → Calls Try.prog 9 #[.slice A4 T.length c4, .agg #[.string q, .int .i64 n']] W' fun e W'' => Below W'.heap.size W' W'' ∧ e = .returned (.bool true)) := ⟨fun W' hb => (hasSite_calls W' _ T (q, n') (HB3.out.2.2.1.below hb) hs2 HTL.out).mono fun e W'' ⟨he, hb2⟩ => ⟨hb2, he⟩⟩
      clear hy f1 f2 f3 f4 f5 hs1 hs2
      go_wp2_with fail
      refine (HC8a.out _ HBN.out).mono ?_
      rintro e w4 ⟨hbq, rfl⟩
      (replace x0 := cell_below hbq x0; replace x1 := cell_below hbq x1; replace x2 := cell_below hbq x2; replace x3 := cell_below hbq x3; replace x4 := cell_below hbq x4; replace x5 := cell_below hbq x5; replace x6 := cell_below hbq x6; replace x7 := cell_below hbq x7; replace x8 := cell_below hbq x8; replace x9 := cell_below hbq x9; replace xa := cell_below hbq xa; replace xb := cell_below hbq xb)
      have HBa := Aside0.mk (below_to HBN.out hbq)
      clear hbq hst hnN y0 y1 y2 y3 y4 y5 y6 y7 y8 y9 ya yb HC8a HBN
      go_wp2_with fail
      refine (HC8b.out _ HBa.out).mono ?_
      rintro e w5 ⟨hbq, rfl⟩
      (replace x0 := cell_below hbq x0; replace x1 := cell_below hbq x1; replace x2 := cell_below hbq x2; replace x3 := cell_below hbq x3; replace x4 := cell_below hbq x4; replace x5 := cell_below hbq x5; replace x6 := cell_below hbq x6; replace x7 := cell_below hbq x7; replace x8 := cell_below hbq x8; replace x9 := cell_below hbq x9; replace xa := cell_below hbq xa; replace xb := cell_below hbq xb)
      have HBb := Aside0.mk (below_to HBa.out hbq)
      clear hbq HC8b HBa
      go_wp2_with fail
      refine (HC9a.out _ HBb.out).mono ?_
      rintro e w6 ⟨hbq, rfl⟩
      (replace x0 := cell_below hbq x0; replace x1 := cell_below hbq x1; replace x2 := cell_below hbq x2; replace x3 := cell_below hbq x3; replace x4 := cell_below hbq x4; replace x5 := cell_below hbq x5; replace x6 := cell_below hbq x6; replace x7 := cell_below hbq x7; replace x8 := cell_below hbq x8; replace x9 := cell_below hbq x9; replace xa := cell_below hbq xa; replace xb := cell_below hbq xb)
      have HBc := Aside0.mk (below_to HBb.out hbq)
      clear hbq HC9a HBb
      go_wp2_with fail
      refine (HC9b.out _ HBc.out).mono ?_
      rintro e w7 ⟨hbq, rfl⟩
      (replace x0 := cell_below hbq x0; replace x1 := cell_below hbq x1; replace x2 := cell_below hbq x2; replace x3 := cell_below hbq x3; replace x4 := cell_below hbq x4; replace x5 := cell_below hbq x5; replace x6 := cell_below hbq x6; replace x7 := cell_below hbq x7; replace x8 := cell_below hbq x8; replace x9 := cell_below hbq x9; replace xa := cell_below hbq xa; replace xb := cell_below hbq xb)
      have HBd := Aside0.mk (below_to HBc.out hbq)
      clear hbq HC9b HBc
      clear x0 x1 x2 x3 x4 x5 x6 x7 x8 x9 xa xb e1 e2
      go_wp2_with fail
      exact ⟨⟨i + 1, by first | rfl | (simp; done), by omega, HBd⟩, by show D.length - (i + 1) < D.length - i; omega⟩
    · have d1 : decide (((i : Nat) : Int) < ((D.length : Nat) : Int)) = false := decide_eq_false (by omega)
      go_wp2_with fail
      clear d1 H5 H6 H7 H8 hmin hw1 hw2 hmul
      go_loopw [89] (fun v wr => ∃ j : Nat, v = .int .i64 (j : Nat) ∧ j ≤ L.length ∧ Aside0 (Below W3.heap.size W3 wr)) (fun v wr => L.length - (RowKit.intOf v).toNat)
      case atStart => exact ⟨0, rfl, Nat.zero_le _, HI⟩
      case round =>
        clear HI hlt hi
        obtain ⟨j, rfl, hj, HJ⟩ := hrel
        by_cases hjt : j < L.length
        · have d1 : decide (((j : Nat) : Int) < ((L.length : Nat) : Int)) = true := decide_eq_true (by omega)
          have p0 : ((0 : Int) ≤ ((j : Nat) : Int)) = True := eq_true (by omega)
          have p1 : (((j : Nat) : Int) < ((L.length : Nat) : Int)) = True := eq_true (by omega)
          obtain ⟨_, b, off, rfl, y0, y1, y2, y3, y4, y5⟩ := (HE.out wr (below_to HB3.out.1 HJ.out)).cells j hjt
          have hma : L[j]! ∈ L := by rw [getElem!_pos L j hjt]; exact List.getElem_mem _
          obtain ⟨⟨p, n, q, m, kd, v⟩, hxe⟩ : ∃ y, L[j]! = y := ⟨_, rfl⟩
          rw [hxe] at y0 y1 y2 y3 y4 y5 hma
          have HMA := Aside0.mk hma
          have HWA : Aside0 (Below W3.heap.size W3 (wr.alloc (.cells #[.string p, .int .i64 n, .string q, .int .i64 m, .int .i64 kd, .bool v] 31)) ∧ (wr.alloc (.cells #[.string p, .int .i64 n, .string q, .int .i64 m, .int .i64 kd, .bool v] 31)).heap[wr.heap.size]? = some (.cells #[.string p, .int .i64 n, .string q, .int .i64 m, .int .i64 kd, .bool v] 31 (0, 0))) := ⟨below_mk HJ.out _, heap_alloc_new wr _⟩
          clear hxe hma
          go_wp2_with fail
          clear y0 y1 y2 y3 y4 y5 d1 p0 p1
          generalize wr.heap.size = Na at *
          generalize wr.alloc (.cells #[.string p, .int .i64 n, .string q, .int .i64 m, .int .i64 kd, .bool v] 31) = Wa at *
          go_loopw [95] (fun v wt => ∃ t : Nat, v = .int .i64 (t : Nat) ∧ t ≤ L.length ∧ Aside0 (Below Wa.heap.size Wa wt)) (fun v wt => L.length - (RowKit.intOf v).toNat)
          case atStart => exact ⟨0, rfl, Nat.zero_le _, ⟨Below.refl _ _⟩⟩
          case round =>
            obtain ⟨t, rfl, ht, HT⟩ := hrel
            by_cases htt : t < L.length
            · have d1 : decide (((t : Nat) : Int) < ((L.length : Nat) : Int)) = true := decide_eq_true (by omega)
              have p0 : ((0 : Int) ≤ ((t : Nat) : Int)) = True := eq_true (by omega)
              have p1 : (((t : Nat) : Int) < ((L.length : Nat) : Int)) = True := eq_true (by omega)
              obtain ⟨_, b', off', e, y0, y1, y2, y3, y4, y5⟩ := (HE.out wr (below_to HB3.out.1 (below_to HWA.out.1 HT.out))).cells t htt
              cases e
              have hmb : L[t]! ∈ L := by rw [getElem!_pos L t htt]; exact List.getElem_mem _
              obtain ⟨⟨p', n', q', m', kd', v'⟩, hxe⟩ : ∃ y, L[t]! = y := ⟨_, rfl⟩
              rw [hxe] at y0 y1 y2 y3 y4 y5 hmb
              have HMB := Aside0.mk hmb
              have hnN := heap_alloc_new wr (.cells #[.string p', .int .i64 n', .string q', .int .i64 m', .int .i64 kd', .bool v'] 31)
              have hbN := below_to HT.out (below_mk (Below.refl wr.heap.size wr) (.cells #[.string p', .int .i64 n', .string q', .int .i64 m', .int .i64 kd', .bool v'] 31))
              have hA := (hbN.block _ (blk_lt HWA.out.2)).trans HWA.out.2
              have a0 := (blk_cell hA 0).trans (show (#[Value.string p, Value.int .i64 n, Value.string q, Value.int .i64 m, Value.int .i64 kd, Value.bool v])[0]? = some (.string p) from rfl)
              have c0 := (blk_cell hnN 0).trans (show (#[Value.string p', Value.int .i64 n', Value.string q', Value.int .i64 m', Value.int .i64 kd', Value.bool v'])[0]? = some (.string p') from rfl)
              have a1 := (blk_cell hA 1).trans (show (#[Value.string p, Value.int .i64 n, Value.string q, Value.int .i64 m, Value.int .i64 kd, Value.bool v])[1]? = some (.int .i64 n) from rfl)
              have c1 := (blk_cell hnN 1).trans (show (#[Value.string p', Value.int .i64 n', Value.string q', Value.int .i64 m', Value.int .i64 kd', Value.bool v'])[1]? = some (.int .i64 n') from rfl)
              have a2 := (blk_cell hA 2).trans (show (#[Value.string p, Value.int .i64 n, Value.string q, Value.int .i64 m, Value.int .i64 kd, Value.bool v])[2]? = some (.string q) from rfl)
              have c2 := (blk_cell hnN 2).trans (show (#[Value.string p', Value.int .i64 n', Value.string q', Value.int .i64 m', Value.int .i64 kd', Value.bool v'])[2]? = some (.string q') from rfl)
              have a3 := (blk_cell hA 3).trans (show (#[Value.string p, Value.int .i64 n, Value.string q, Value.int .i64 m, Value.int .i64 kd, Value.bool v])[3]? = some (.int .i64 m) from rfl)
              have c3' := (blk_cell hnN 3).trans (show (#[Value.string p', Value.int .i64 n', Value.string q', Value.int .i64 m', Value.int .i64 kd', Value.bool v'])[3]? = some (.int .i64 m') from rfl)
              have a4 := (blk_cell hA 4).trans (show (#[Value.string p, Value.int .i64 n, Value.string q, Value.int .i64 m, Value.int .i64 kd, Value.bool v])[4]? = some (.int .i64 kd) from rfl)
              have c4' := (blk_cell hnN 4).trans (show (#[Value.string p', Value.int .i64 n', Value.string q', Value.int .i64 m', Value.int .i64 kd', Value.bool v'])[4]? = some (.int .i64 kd') from rfl)
              have a5 := (blk_cell hA 5).trans (show (#[Value.string p, Value.int .i64 n, Value.string q, Value.int .i64 m, Value.int .i64 kd, Value.bool v])[5]? = some (.bool v) from rfl)
              have c5 := (blk_cell hnN 5).trans (show (#[Value.string p', Value.int .i64 n', Value.string q', Value.int .i64 m', Value.int .i64 kd', Value.bool v'])[5]? = some (.bool v') from rfl)
              have HTW := Aside0.mk hbN
              have HWB0 : Aside0 (Below W3.heap.size W3 (wr.alloc (.cells #[.string p', .int .i64 n', .string q', .int .i64 m', .int .i64 kd', .bool v'] 31)) ∧ (wr.alloc (.cells #[.string p', .int .i64 n', .string q', .int .i64 m', .int .i64 kd', .bool v'] 31)).heap[Na]? = some (.cells #[.string p, .int .i64 n, .string q, .int .i64 m, .int .i64 kd, .bool v] 31 (0, 0)) ∧ (wr.alloc (.cells #[.string p', .int .i64 n', .string q', .int .i64 m', .int .i64 kd', .bool v'] 31)).heap[wr.heap.size]? = some (.cells #[.string p', .int .i64 n', .string q', .int .i64 m', .int .i64 kd', .bool v'] 31 (0, 0)) ∧ Below Wa.heap.size Wa (wr.alloc (.cells #[.string p', .int .i64 n', .string q', .int .i64 m', .int .i64 kd', .bool v'] 31))) := ⟨below_to HWA.out.1 hbN, hA, hnN, hbN⟩
              clear hxe hmb hnN hbN hA
              cases v
              · go_wp2_with fail
                exact ⟨⟨t + 1, by first | rfl | (simp; done), by omega, HTW⟩, by show L.length - (t + 1) < L.length - t; omega⟩
              cases v'
              · go_wp2_with fail
                exact ⟨⟨t + 1, by first | rfl | (simp; done), by omega, HTW⟩, by show L.length - (t + 1) < L.length - t; omega⟩
              by_cases hq : q = p'
              · subst hq
                have e1 : (q.toList != q.toList) = false := by simp
                have e2 : (q.toList == q.toList) = true := by simp
                have HTO : Aside0 (told D ⟨p, n, q, m, kd, true⟩ ⟨q, n', q', m', kd', true⟩ D.length = 1) := ⟨HTD.out _ _ HMA.out HMB.out rfl rfl rfl⟩
                go_wp2_with fail
                clear y0 y1 y2 y3 y4 y5 d1 p0 p1 a0 a1 a2 a3 a4 a5 c0 c1 c2 c3' c4' c5 e1 e2 HTW
                have HWB : Aside0 (Below W3.heap.size W3 (wr.alloc (.cells #[.string q, .int .i64 n', .string q', .int .i64 m', .int .i64 kd', .bool true] 31)) ∧ (wr.alloc (.cells #[.string q, .int .i64 n', .string q', .int .i64 m', .int .i64 kd', .bool true] 31)).heap[Na]? = some (.cells #[.string p, .int .i64 n, .string q, .int .i64 m, .int .i64 kd, .bool true] 31 (0, 0)) ∧ (wr.alloc (.cells #[.string q, .int .i64 n', .string q', .int .i64 m', .int .i64 kd', .bool true] 31)).heap[wr.heap.size]? = some (.cells #[.string q, .int .i64 n', .string q', .int .i64 m', .int .i64 kd', .bool true] 31 (0, 0)) ∧ Below Wa.heap.size Wa (wr.alloc (.cells #[.string q, .int .i64 n', .string q', .int .i64 m', .int .i64 kd', .bool true] 31))) := HWB0
                clear HWB0
                generalize wr.heap.size = Nb at *
                generalize wr.alloc (.cells #[.string q, .int .i64 n', .string q', .int .i64 m', .int .i64 kd', .bool true] 31) = Wb at *
                go_loopw [11, 118] (fun v11 vz wz => ∃ u : Nat, vz = .int .i64 (u : Nat) ∧ u ≤ D.length ∧ v11 = .int .i64 ((told D ⟨p, n, q, m, kd, true⟩ ⟨q, n', q', m', kd', true⟩ u : Nat) : Int) ∧ Aside0 (Below Wb.heap.size Wb wz)) (fun _ vz wz => D.length - (RowKit.intOf vz).toNat)
                case atStart => exact ⟨0, rfl, Nat.zero_le _, by rw [told_zero]; rfl, ⟨Below.refl _ _⟩⟩
                case round =>
                  obtain ⟨u, rfl, hu, rfl, HU⟩ := hrel
                  by_cases hut : u < D.length
                  · have d1 : decide (((u : Nat) : Int) < ((D.length : Nat) : Int)) = true := decide_eq_true (by omega)
                    have p0 : ((0 : Int) ≤ ((u : Nat) : Int)) = True := eq_true (by omega)
                    have p1 : (((u : Nat) : Int) < ((D.length : Nat) : Int)) = True := eq_true (by omega)
                    obtain ⟨_, bx, ofx, rfl, hy⟩ := (HB3.out.2.1.below (below_to HWB.out.1 HU.out)).cells u hut
                    have HTS := Aside0.mk (told_succ D ⟨p, n, q, m, kd, true⟩ ⟨q, n', q', m', kd', true⟩ u hut)
                    obtain ⟨⟨⟨P0, N0, Q0, M0, K0, V0⟩, ⟨P1, N1, Q1, M1, K1, V1⟩⟩, hxe⟩ : ∃ y, D[u]! = y := ⟨_, rfl⟩
                    rw [hxe] at hy HTS
                    clear hxe
                    have HTS2 : Aside0 (told D ⟨p, n, q, m, kd, true⟩ ⟨q, n', q', m', kd', true⟩ (u + 1) = if (⟨P0, N0, Q0, M0, K0, V0⟩ : Edge) = ⟨p, n, q, m, kd, true⟩ ∧ (⟨P1, N1, Q1, M1, K1, V1⟩ : Edge) = ⟨q, n', q', m', kd', true⟩ then told D ⟨p, n, q, m, kd, true⟩ ⟨q, n', q', m', kd', true⟩ u + 1 else told D ⟨p, n, q, m, kd, true⟩ ⟨q, n', q', m', kd', true⟩ u) := HTS
                    have HTE := Aside0.mk (told_le D ⟨p, n, q, m, kd, true⟩ ⟨q, n', q', m', kd', true⟩ u)
                    clear HTS
                    have y0 : wr.cell? ⟨bx, ofx + u * 12, none⟩ = some (.string P0) := hy 0 (by omega)
                    have y1 : wr.cell? ⟨bx, ofx + u * 12 + 1, none⟩ = some (.int .i64 N0) := hy 1 (by omega)
                    have y2 : wr.cell? ⟨bx, ofx + u * 12 + 2, none⟩ = some (.string Q0) := hy 2 (by omega)
                    have y3 : wr.cell? ⟨bx, ofx + u * 12 + 3, none⟩ = some (.int .i64 M0) := hy 3 (by omega)
                    have y4 : wr.cell? ⟨bx, ofx + u * 12 + 4, none⟩ = some (.int .i64 K0) := hy 4 (by omega)
                    have y5 : wr.cell? ⟨bx, ofx + u * 12 + 5, none⟩ = some (.bool V0) := hy 5 (by omega)
                    have y6 : wr.cell? ⟨bx, ofx + u * 12 + 6, none⟩ = some (.string P1) := hy 6 (by omega)
                    have y7 : wr.cell? ⟨bx, ofx + u * 12 + 7, none⟩ = some (.int .i64 N1) := hy 7 (by omega)
                    have y8 : wr.cell? ⟨bx, ofx + u * 12 + 8, none⟩ = some (.string Q1) := hy 8 (by omega)
                    have y9 : wr.cell? ⟨bx, ofx + u * 12 + 9, none⟩ = some (.int .i64 M1) := hy 9 (by omega)
                    have ya : wr.cell? ⟨bx, ofx + u * 12 + 10, none⟩ = some (.int .i64 K1) := hy 10 (by omega)
                    have yb : wr.cell? ⟨bx, ofx + u * 12 + 11, none⟩ = some (.bool V1) := hy 11 (by omega)
                    have hst : Sem.run Try.prog (storeCells ⟨wr.heap.size, 0, none⟩ [.string P0, .int .i64 N0, .string Q0, .int .i64 M0, .int .i64 K0, .bool V0, .string P1, .int .i64 N1, .string Q1, .int .i64 M1, .int .i64 K1, .bool V1] 0) (wr.alloc (.cells #[.string ⟨#[]⟩, .int .i64 0, .string ⟨#[]⟩, .int .i64 0, .int .i64 0, .bool false, .string ⟨#[]⟩, .int .i64 0, .string ⟨#[]⟩, .int .i64 0, .int .i64 0, .bool false] 33)) = .ok () (wr.alloc (.cells #[.string P0, .int .i64 N0, .string Q0, .int .i64 M0, .int .i64 K0, .bool V0, .string P1, .int .i64 N1, .string Q1, .int .i64 M1, .int .i64 K1, .bool V1] 33)) := storeNewD wr (⟨P0, N0, Q0, M0, K0, V0⟩, ⟨P1, N1, Q1, M1, K1, V1⟩)
                    have hnN := heap_alloc_new wr (.cells #[.string P0, .int .i64 N0, .string Q0, .int .i64 M0, .int .i64 K0, .bool V0, .string P1, .int .i64 N1, .string Q1, .int .i64 M1, .int .i64 K1, .bool V1] 33)
                    have hbN := below_to HU.out (below_mk (Below.refl wr.heap.size wr) (.cells #[.string P0, .int .i64 N0, .string Q0, .int .i64 M0, .int .i64 K0, .bool V0, .string P1, .int .i64 N1, .string Q1, .int .i64 M1, .int .i64 K1, .bool V1] 33))
                    have hB := (hbN.block _ (blk_lt HWB.out.2.2.1)).trans HWB.out.2.2.1
                    have hA := (hbN.block _ (blk_lt HWB.out.2.1)).trans HWB.out.2.1
                    have x0 := (blk_cell hnN 0).trans (show (#[Value.string P0, Value.int .i64 N0, Value.string Q0, Value.int .i64 M0, Value.int .i64 K0, Value.bool V0, Value.string P1, Value.int .i64 N1, Value.string Q1, Value.int .i64 M1, Value.int .i64 K1, Value.bool V1])[0]? = some (.string P0) from rfl)
                    have x1 := (blk_cell hnN 1).trans (show (#[Value.string P0, Value.int .i64 N0, Value.string Q0, Value.int .i64 M0, Value.int .i64 K0, Value.bool V0, Value.string P1, Value.int .i64 N1, Value.string Q1, Value.int .i64 M1, Value.int .i64 K1, Value.bool V1])[1]? = some (.int .i64 N0) from rfl)
                    have x2 := (blk_cell hnN 2).trans (show (#[Value.string P0, Value.int .i64 N0, Value.string Q0, Value.int .i64 M0, Value.int .i64 K0, Value.bool V0, Value.string P1, Value.int .i64 N1, Value.string Q1, Value.int .i64 M1, Value.int .i64 K1, Value.bool V1])[2]? = some (.string Q0) from rfl)
                    have x3 := (blk_cell hnN 3).trans (show (#[Value.string P0, Value.int .i64 N0, Value.string Q0, Value.int .i64 M0, Value.int .i64 K0, Value.bool V0, Value.string P1, Value.int .i64 N1, Value.string Q1, Value.int .i64 M1, Value.int .i64 K1, Value.bool V1])[3]? = some (.int .i64 M0) from rfl)
                    have x4 := (blk_cell hnN 4).trans (show (#[Value.string P0, Value.int .i64 N0, Value.string Q0, Value.int .i64 M0, Value.int .i64 K0, Value.bool V0, Value.string P1, Value.int .i64 N1, Value.string Q1, Value.int .i64 M1, Value.int .i64 K1, Value.bool V1])[4]? = some (.int .i64 K0) from rfl)
                    have x5 := (blk_cell hnN 5).trans (show (#[Value.string P0, Value.int .i64 N0, Value.string Q0, Value.int .i64 M0, Value.int .i64 K0, Value.bool V0, Value.string P1, Value.int .i64 N1, Value.string Q1, Value.int .i64 M1, Value.int .i64 K1, Value.bool V1])[5]? = some (.bool V0) from rfl)
                    have x6 := (blk_cell hnN 6).trans (show (#[Value.string P0, Value.int .i64 N0, Value.string Q0, Value.int .i64 M0, Value.int .i64 K0, Value.bool V0, Value.string P1, Value.int .i64 N1, Value.string Q1, Value.int .i64 M1, Value.int .i64 K1, Value.bool V1])[6]? = some (.string P1) from rfl)
                    have x7 := (blk_cell hnN 7).trans (show (#[Value.string P0, Value.int .i64 N0, Value.string Q0, Value.int .i64 M0, Value.int .i64 K0, Value.bool V0, Value.string P1, Value.int .i64 N1, Value.string Q1, Value.int .i64 M1, Value.int .i64 K1, Value.bool V1])[7]? = some (.int .i64 N1) from rfl)
                    have x8 := (blk_cell hnN 8).trans (show (#[Value.string P0, Value.int .i64 N0, Value.string Q0, Value.int .i64 M0, Value.int .i64 K0, Value.bool V0, Value.string P1, Value.int .i64 N1, Value.string Q1, Value.int .i64 M1, Value.int .i64 K1, Value.bool V1])[8]? = some (.string Q1) from rfl)
                    have x9 := (blk_cell hnN 9).trans (show (#[Value.string P0, Value.int .i64 N0, Value.string Q0, Value.int .i64 M0, Value.int .i64 K0, Value.bool V0, Value.string P1, Value.int .i64 N1, Value.string Q1, Value.int .i64 M1, Value.int .i64 K1, Value.bool V1])[9]? = some (.int .i64 M1) from rfl)
                    have xa := (blk_cell hnN 10).trans (show (#[Value.string P0, Value.int .i64 N0, Value.string Q0, Value.int .i64 M0, Value.int .i64 K0, Value.bool V0, Value.string P1, Value.int .i64 N1, Value.string Q1, Value.int .i64 M1, Value.int .i64 K1, Value.bool V1])[10]? = some (.int .i64 K1) from rfl)
                    have xb := (blk_cell hnN 11).trans (show (#[Value.string P0, Value.int .i64 N0, Value.string Q0, Value.int .i64 M0, Value.int .i64 K0, Value.bool V0, Value.string P1, Value.int .i64 N1, Value.string Q1, Value.int .i64 M1, Value.int .i64 K1, Value.bool V1])[11]? = some (.bool V1) from rfl)
                    have a0 := (blk_cell hA 0).trans (show (#[Value.string p, Value.int .i64 n, Value.string q, Value.int .i64 m, Value.int .i64 kd, Value.bool true])[0]? = some (.string p) from rfl)
                    have a1 := (blk_cell hA 1).trans (show (#[Value.string p, Value.int .i64 n, Value.string q, Value.int .i64 m, Value.int .i64 kd, Value.bool true])[1]? = some (.int .i64 n) from rfl)
                    have a2 := (blk_cell hA 2).trans (show (#[Value.string p, Value.int .i64 n, Value.string q, Value.int .i64 m, Value.int .i64 kd, Value.bool true])[2]? = some (.string q) from rfl)
                    have a3 := (blk_cell hA 3).trans (show (#[Value.string p, Value.int .i64 n, Value.string q, Value.int .i64 m, Value.int .i64 kd, Value.bool true])[3]? = some (.int .i64 m) from rfl)
                    have a4 := (blk_cell hA 4).trans (show (#[Value.string p, Value.int .i64 n, Value.string q, Value.int .i64 m, Value.int .i64 kd, Value.bool true])[4]? = some (.int .i64 kd) from rfl)
                    have a5 := (blk_cell hA 5).trans (show (#[Value.string p, Value.int .i64 n, Value.string q, Value.int .i64 m, Value.int .i64 kd, Value.bool true])[5]? = some (.bool true) from rfl)
                    have c0 := (blk_cell hB 0).trans (show (#[Value.string q, Value.int .i64 n', Value.string q', Value.int .i64 m', Value.int .i64 kd', Value.bool true])[0]? = some (.string q) from rfl)
                    have c1 := (blk_cell hB 1).trans (show (#[Value.string q, Value.int .i64 n', Value.string q', Value.int .i64 m', Value.int .i64 kd', Value.bool true])[1]? = some (.int .i64 n') from rfl)
                    have c2 := (blk_cell hB 2).trans (show (#[Value.string q, Value.int .i64 n', Value.string q', Value.int .i64 m', Value.int .i64 kd', Value.bool true])[2]? = some (.string q') from rfl)
                    have c3 := (blk_cell hB 3).trans (show (#[Value.string q, Value.int .i64 n', Value.string q', Value.int .i64 m', Value.int .i64 kd', Value.bool true])[3]? = some (.int .i64 m') from rfl)
                    have c4 := (blk_cell hB 4).trans (show (#[Value.string q, Value.int .i64 n', Value.string q', Value.int .i64 m', Value.int .i64 kd', Value.bool true])[4]? = some (.int .i64 kd') from rfl)
                    have c5 := (blk_cell hB 5).trans (show (#[Value.string q, Value.int .i64 n', Value.string q', Value.int .i64 m', Value.int .i64 kd', Value.bool true])[5]? = some (.bool true) from rfl)
                    have HBN := Aside0.mk hbN
                    have hee1 := fun w => eqE ⟨P0, N0, Q0, M0, K0, V0⟩ ⟨p, n, q, m, kd, true⟩ w
                    have hee2 := fun w => eqE ⟨P1, N1, Q1, M1, K1, V1⟩ ⟨q, n', q', m', kd', true⟩ w
                    have hg1 : ∀ (op : BinOp) (a b : Operand) w, Sem.run Try.prog (eqGuard op 31 a b (.agg #[.string P0, .int .i64 N0, .string Q0, .int .i64 M0, .int .i64 K0, .bool V0]) (.agg #[.string p, .int .i64 n, .string q, .int .i64 m, .int .i64 kd, .bool true])) w = .ok () w := fun op a b w => guardE op a b ⟨P0, N0, Q0, M0, K0, V0⟩ ⟨p, n, q, m, kd, true⟩ w
                    have hg2 : ∀ (op : BinOp) (a b : Operand) w, Sem.run Try.prog (eqGuard op 31 a b (.agg #[.string P1, .int .i64 N1, .string Q1, .int .i64 M1, .int .i64 K1, .bool V1]) (.agg #[.string q, .int .i64 n', .string q', .int .i64 m', .int .i64 kd', .bool true])) w = .ok () w := fun op a b w => guardE op a b ⟨P1, N1, Q1, M1, K1, V1⟩ ⟨q, n', q', m', kd', true⟩ w
                    have HEE : Aside0 ((∀ w, Sem.run Try.prog (binOp .eql 31 (.agg #[.string P0, .int .i64 N0, .string Q0, .int .i64 M0, .int .i64 K0, .bool V0]) (.agg #[.string p, .int .i64 n, .string q, .int .i64 m, .int .i64 kd, .bool true])) w = .ok (.bool (decide ((⟨P0, N0, Q0, M0, K0, V0⟩ : Edge) = ⟨p, n, q, m, kd, true⟩))) w) ∧ (∀ w, Sem.run Try.prog (binOp .eql 31 (.agg #[.string P1, .int .i64 N1, .string Q1, .int .i64 M1, .int .i64 K1, .bool V1]) (.agg #[.string q, .int .i64 n', .string q', .int .i64 m', .int .i64 kd', .bool true])) w = .ok (.bool (decide ((⟨P1, N1, Q1, M1, K1, V1⟩ : Edge) = ⟨q, n', q', m', kd', true⟩))) w)) := ⟨hee1, hee2⟩
                    clear hy hnN hbN hB hA hee1 hee2
                    obtain ⟨tv, htv⟩ : ∃ tv, told D ⟨p, n, q, m, kd, true⟩ ⟨q, n', q', m', kd', true⟩ u = tv := ⟨_, rfl⟩
                    rw [htv] at HTS2 HTE ⊢
                    clear htv
                    have htb : tv + 1 < 9223372036854775807 := by have := HTE.out; have := HDL.out; omega
                    by_cases h1 : (⟨P0, N0, Q0, M0, K0, V0⟩ : Edge) = ⟨p, n, q, m, kd, true⟩
                    · have q1 : ∀ w, Sem.run Try.prog (binOp .eql 31 (.agg #[.string P0, .int .i64 N0, .string Q0, .int .i64 M0, .int .i64 K0, .bool V0]) (.agg #[.string p, .int .i64 n, .string q, .int .i64 m, .int .i64 kd, .bool true])) w = .ok (.bool true) w := fun w => by rw [HEE.out.1 w, decide_eq_true h1]
                      by_cases h2 : (⟨P1, N1, Q1, M1, K1, V1⟩ : Edge) = ⟨q, n', q', m', kd', true⟩
                      · have q2 : ∀ w, Sem.run Try.prog (binOp .eql 31 (.agg #[.string P1, .int .i64 N1, .string Q1, .int .i64 M1, .int .i64 K1, .bool V1]) (.agg #[.string q, .int .i64 n', .string q', .int .i64 m', .int .i64 kd', .bool true])) w = .ok (.bool true) w := fun w => by rw [HEE.out.2 w, decide_eq_true h2]
                        have HT3 := Aside0.mk (HTS2.out.trans (if_pos ⟨h1, h2⟩))
                        clear h1 h2 HTS2
                        go_wp2_with fail
                        exact ⟨⟨u + 1, by first | rfl | (simp; done), by omega, by rw [HT3.out]; rfl, HBN⟩, by show D.length - (u + 1) < D.length - u; omega⟩
                      · have q2 : ∀ w, Sem.run Try.prog (binOp .eql 31 (.agg #[.string P1, .int .i64 N1, .string Q1, .int .i64 M1, .int .i64 K1, .bool V1]) (.agg #[.string q, .int .i64 n', .string q', .int .i64 m', .int .i64 kd', .bool true])) w = .ok (.bool false) w := fun w => by rw [HEE.out.2 w, decide_eq_false h2]
                        have HT3 := Aside0.mk (HTS2.out.trans (if_neg (fun e => h2 e.2)))
                        clear h1 h2 HTS2
                        go_wp2_with fail
                        exact ⟨⟨u + 1, by first | rfl | (simp; done), by omega, by rw [HT3.out], HBN⟩, by show D.length - (u + 1) < D.length - u; omega⟩
                    · have q1 : ∀ w, Sem.run Try.prog (binOp .eql 31 (.agg #[.string P0, .int .i64 N0, .string Q0, .int .i64 M0, .int .i64 K0, .bool V0]) (.agg #[.string p, .int .i64 n, .string q, .int .i64 m, .int .i64 kd, .bool true])) w = .ok (.bool false) w := fun w => by rw [HEE.out.1 w, decide_eq_false h1]
                      have HT3 := Aside0.mk (HTS2.out.trans (if_neg (fun e => h1 e.1)))
                      clear h1 HTS2
                      go_wp2_with fail
                      exact ⟨⟨u + 1, by first | rfl | (simp; done), by omega, by rw [HT3.out], HBN⟩, by show D.length - (u + 1) < D.length - u; omega⟩
                  · have d1 : decide (((u : Nat) : Int) < ((D.length : Nat) : Int)) = false := decide_eq_false (by omega)
                    obtain rfl : u = D.length := by omega
                    rw [HTO.out]
                    go_wp2_with fail
                    exact ⟨⟨t + 1, by first | rfl | (simp; done), by omega, ⟨below_to HWB.out.2.2.2 HU.out⟩⟩, by show L.length - (t + 1) < L.length - t; omega⟩
              · have e1 : (q.toList != p'.toList) = true := by
                  have : q.toList ≠ p'.toList := fun h => hq (toList_inj h)
                  simpa using this
                have e2 : (q.toList == p'.toList) = false := by
                  have : q.toList ≠ p'.toList := fun h => hq (toList_inj h)
                  simpa using this
                go_wp2_with fail
                exact ⟨⟨t + 1, by first | rfl | (simp; done), by omega, HTW⟩, by show L.length - (t + 1) < L.length - t; omega⟩
            · have d1 : decide (((t : Nat) : Int) < ((L.length : Nat) : Int)) = false := decide_eq_false (by omega)
              go_wp2_with fail
              exact ⟨⟨j + 1, by first | rfl | (simp; done), by omega, ⟨below_to HWA.out.1 HT.out⟩⟩, by show L.length - (j + 1) < L.length - j; omega⟩
        · have d1 : decide (((j : Nat) : Int) < ((L.length : Nat) : Int)) = false := decide_eq_false (by omega)
          have hte := trk_empty HB3.out.2.2.2
          go_wp2_with fail
          refine (H10.out _ (below_to HB3.out.1 HJ.out)).mono ?_
          rintro e W9 ⟨hb9, rfl⟩
          have HB9 := Aside0.mk hb9
          clear hb9
          go_wp2_with fail
          go_ret
          exact ⟨rfl, below_to (below_to HB3.out.1 HJ.out) HB9.out⟩
end Go.Proofs.Ytknpkfjaffhejaa
