/- WHAT IS PROVED: the reference's name: a string in its place, once; sameNames. | WHAT IS PROVED: sameDangers and sameNames at equal lists. -/
import Derived.Test.YtknpkfjaffhejaaGreatPt
import Derived.Test.YtknpkfjaffhejaaGreatDd
namespace Go.Proofs.YtknpkfjaffhejaaGreat
open Go.RowKit Go.Sort Go.Lib Go.Proofs.YtknpkfjaffhejaaGreatW.PrintWords Go.Proofs.YtknpkfjaffhejaaGreatW.PrintLast Go.Proofs.YtknpkfjaffhejaaGreatW.PrintMore
set_option linter.unusedVariables false
set_option linter.unusedSimpArgs false

/-- A slice of names. -/
def StR (W : World) (v : Value) (l : List ByteArray) : Prop := ∃ A c, v = .slice A l.length c ∧ ∀ i, i < l.length → ∃ b off, A = some ⟨b, off, none⟩ ∧ W.cell? ⟨b, off + i, none⟩ = some (.string l[i]!)
theorem StR.form {W : World} {v : Value} {l : List ByteArray} (h : StR W v l) : ∃ A c, v = .slice A l.length c := by
  obtain ⟨A, c, rfl, _⟩ := h
  exact ⟨A, c, rfl⟩
theorem StR.below {W W' : World} {v : Value} {l : List ByteArray} (h : StR W v l) (hb : Below W.heap.size W W') : StR W' v l := by
  obtain ⟨A, c, rfl, hA⟩ := h
  refine ⟨A, c, rfl, fun i hi => ?_⟩
  obtain ⟨b, off, rfl, hc⟩ := hA i hi
  exact ⟨b, off, rfl, cell_below hb hc⟩
theorem StR.cell {W : World} {A : Option Addr} {n c : Nat} {l : List ByteArray} (h : StR W (.slice A n c) l) (i : Nat) (hi : i < l.length) : ∃ b off, A = some ⟨b, off, none⟩ ∧ W.cell? ⟨b, off + i, none⟩ = some (.string l[i]!) := by
  obtain ⟨A', c', e, hA⟩ := h
  injection e with e1 e2 e3
  subst e1
  exact hA i hi
theorem StR.of_owns {W : World} {base : Nat} {v : Value} {l : List ByteArray} (h : W.ownsRow base 9 1 v l.length (l.map Value.string)) : StR W v l := by
  rcases owns_kind h with ⟨rfl, h1, h2⟩ | ⟨g, c, rfl, _, _, hc⟩
  · exact ⟨none, 0, by rw [h1], fun i hi => absurd hi (by omega)⟩
  · refine ⟨_, c, rfl, fun i hi => ⟨g, 0, rfl, ?_⟩⟩
    rw [Nat.zero_add]
    refine hc i _ ?_
    rw [List.getElem?_map, List.getElem?_eq_getElem hi, getElem!_pos l i hi]
    rfl

set_option maxRecDepth 100000 in
set_option maxHeartbeats 4000000 in
theorem sameNames_calls (W : World) (v v' : Value) (l : List ByteArray) (h : StR W v l) (h' : StR W v' l) (hl : l.length ≤ 1099511627776) :
    Calls Tryz.prog 9 #[v, v'] W fun e W' => e = .returned (.bool true) ∧ Gr W W' := by
  obtain ⟨A, c, rfl⟩ := h.form
  obtain ⟨A', c', rfl⟩ := h'.form
  have HH := Aside0.mk (And.intro h h')
  clear h h'
  have e1 : (((l.length : Nat) : Int) == ((l.length : Nat) : Int)) = true := by simp
  have e2 : (((l.length : Nat) : Int) != ((l.length : Nat) : Int)) = false := by simp
  go_enter Tryz.func9, Tryz.ntmps9
  go_wp2_with fail
  go_loopw [13] (fun v wr => ∃ i : Nat, v = .int .i64 (i : Nat) ∧ i ≤ l.length ∧ Aside0 (Gr W wr)) (fun v wr => l.length - (RowKit.intOf v).toNat)
  case atStart => exact ⟨0, rfl, Nat.zero_le _, ⟨Gr.refl _⟩⟩
  case round =>
    obtain ⟨i, rfl, hi, HI⟩ := hrel
    by_cases hlt : i < l.length
    · have d1 : decide (((i : Nat) : Int) < ((l.length : Nat) : Int)) = true := decide_eq_true (by omega)
      have p0 : ((0 : Int) ≤ ((i : Nat) : Int)) = True := eq_true (by omega)
      have p1 : (((i : Nat) : Int) < ((l.length : Nat) : Int)) = True := eq_true (by omega)
      obtain ⟨b, off, rfl, y0⟩ := (HH.out.1.below HI.out.below).cell i hlt
      obtain ⟨b', off', rfl, z0⟩ := (HH.out.2.below HI.out.below).cell i hlt
      generalize l[i]! = s at *
      have n1 : (s.toList == s.toList) = true := by simp
      have n2 : (s.toList != s.toList) = false := by simp
      have HSK : Aside0 (∀ W', Gr wr W' → ((W'.cell? ⟨b, off + i, none⟩ = some (.string s) ∧ W'.cell? ⟨b', off' + i, none⟩ = some (.string s)) ∧ Gr wr W')) := ⟨fun W' hg => ⟨⟨cell_below hg.below y0, cell_below hg.below z0⟩, hg⟩⟩
      go_wp2_with fail
      go_region_held3 (fun W' => (W'.cell? ⟨b, off + i, none⟩ = some (.string s) ∧ W'.cell? ⟨b', off' + i, none⟩ = some (.string s)) ∧ Gr wr W') (exact HSK.out _ (by repeat (first | assumption | exact Gr.refl _ | refine Gr.drew ?_ | refine Gr.alloc ?_ _))) (fail)
      rename_i hlast
      have hgr := hlast.2
      have HG := Aside0.mk hgr
      clear hlast hgr
      go_wp2_with fail
      go_roundw
      case measure => show l.length - (i + 1) < l.length - i; omega
      case rel => exact ⟨i + 1, by first | rfl | (simp; done), by omega, ⟨HI.out.trans HG.out⟩⟩
    · have d1 : decide (((i : Nat) : Int) < ((l.length : Nat) : Int)) = false := decide_eq_false (by omega)
      go_wp2_with fail
      go_ret
      exact ⟨rfl, HI.out⟩

theorem info9s : (Tryz.prog.info? 9).map (fun i => (i.zero, i.size, i.bytes)) = some (some (.string ⟨#[]⟩), 1, 16) := by kernel_rfl
theorem str_one (l : List ByteArray) : ∀ u ∈ l.map Value.string, u.oneCell' = true := fun u hu => by
  obtain ⟨s, _, rfl⟩ := List.mem_map.1 hu
  rfl
theorem take_str {l : List ByteArray} {i j : Nat} {u : Value} (h : ((l.take i).map Value.string)[j]? = some u) : (l.map Value.string)[j]? = some u := by
  rw [List.map_take, List.getElem?_take] at h
  split at h
  · exact h
  · cases h
theorem drop_str {l : List ByteArray} {i j : Nat} {u : Value} (h : ((l.drop i).map Value.string)[j]? = some u) : (l.map Value.string)[i + j]? = some u := by
  rw [List.map_drop, List.getElem?_drop] at h
  exact h

set_option maxRecDepth 100000 in
set_option maxHeartbeats 8000000 in
theorem name_calls (W : World) (v : Value) (l : List ByteArray) (s : ByteArray) {base : Nat} (h : W.ownsRow base 9 1 v l.length (l.map Value.string)) (hbase : base ≤ W.heap.size) (hn : l.length ≤ 1099511627776) :
    Calls Tryz.prog 28 #[v, .string s] W fun e W' => Below W.heap.size W W' ∧ ∃ v', e = .returned v' ∧ W'.ownsRow base 9 1 v' (ins blt l s).length ((ins blt l s).map Value.string) := by
  rcases owns_kind h with ⟨rfl, h1, h2⟩ | ⟨g, c, rfl, _, hlc, hc⟩
  · obtain rfl : l = [] := List.length_eq_zero_iff.1 h1
    clear h h1 h2
    obtain ⟨i0, hi0, hz0, hz1, hz2⟩ := info_parts info9s
    have t40 := Tryz.underlying28
    have hap : ∀ (w : World) ty, Sem.run Tryz.prog (Builtin.append_ #[28, 28] ty #[.slice none 0 0, .slice none 0 0]) w = .ok (.slice none 0 0) w := fun w ty => run_append_owned_none w 0 28 ty 9 i0 1 t40 hi0 _ 0 [] (World.ownsRow_nil w 0 9 1)
    go_enter Tryz.func28, Tryz.ntmps28
    go_wp2_with fail
    go_loopw [5] (fun v wr => v = .int .i64 0 ∧ wr = W) (fun v wr => 0)
    case atStart => exact ⟨rfl, rfl⟩
    case round =>
      obtain ⟨rfl, rfl⟩ := hrel
      go_wp2_with (at_builtin; refine wpList_append_own _ rfl _ _ 28 rfl wr.heap.size 9 i0 (.string ⟨#[]⟩) 1 16 t40 hi0 hz0 hz1 hz2 rfl (by omega) (.slice none 0 0) 0 [] rfl (World.ownsRow_nil _ _ _ _) ⟨wr.heap.size, 0, none⟩ 1 1 [.string s] rfl rfl ?qb2 ?qb3 ?qb4 ?qb5 ?qb6 ?_)
      case qb2 =>
        intro j u hj
        rw [Addr.add_lit, Nat.zero_add, blk_cell (heap_alloc_new wr _)]
        simpa using hj
      case qb3 => simp [Value.oneCell']
      case qb4 => unfold maxLen; omega
      case qb5 => omega
      case qb6 => simp
      intro v2 W2 hown2 hg2 hnil2
      obtain ⟨A2, c2, rfl⟩ := owns_form hown2
      have HO2 := Aside0.mk (And.intro hown2 hg2)
      clear hown2 hg2 hnil2
      go_wp2_with (at_builtin; refine wpList_append_none _ rfl _ _ 28 rfl wr.heap.size 9 i0 1 t40 hi0 _ _ _ rfl HO2.out.1 rfl ?_)
      go_ret
      refine ⟨(below_mk (Below.refl _ wr) _).trans (grownBy_below HO2.out.2 (by simp) (fun _ e => by cases e)), _, rfl, ?_⟩
      exact owns_mono HO2.out.1 hbase
  · have HC := Aside0.mk hc
    have HW := Aside0.mk h
    clear h hc
    go_enter Tryz.func28, Tryz.ntmps28
    go_wp2_with fail
    go_loopw [5] (fun v wr => wr = W ∧ ∃ i : Nat, v = .int .i64 (i : Nat) ∧ i ≤ l.length ∧ Aside0 (ins blt l s = l.take i ++ ins blt (l.drop i) s)) (fun v wr => l.length - (RowKit.intOf v).toNat)
    case atStart => exact ⟨rfl, 0, rfl, Nat.zero_le _, ⟨by simp⟩⟩
    case round =>
      obtain ⟨rfl, i, rfl, hi, HI⟩ := hrel
      by_cases hlt : i < l.length
      · have d1 : decide (((i : Nat) : Int) < ((l.length : Nat) : Int)) = true := decide_eq_true (by omega)
        have p0 : ((0 : Int) ≤ ((i : Nat) : Int)) = True := eq_true (by omega)
        have p1 : (((i : Nat) : Int) < ((l.length : Nat) : Int)) = True := eq_true (by omega)
        have y0 : wr.cell? ⟨g, i, none⟩ = some (.string l[i]!) := HC.out i _ (by rw [List.getElem?_map, List.getElem?_eq_getElem hlt, getElem!_pos l i hlt]; rfl)
        have HSI := Aside0.mk (ins_step hlt HI.out)
        have HSS := Aside0.mk (ins_same hlt HI.out)
        have HSN := Aside0.mk (ins_new hlt HI.out)
        generalize l[i]! = t at *
        cases hb : blt t s
        · have hb' : Op.bytesLess t.toList s.toList = false := hb
          by_cases he : t = s
          · have e1 : (t.toList == s.toList) = true := by rw [he]; simp
            have HIN := Aside0.mk (HSS.out hb he)
            clear hb he HSI HSS HSN
            go_wp2_with fail
            go_ret
            exact ⟨Below.refl _ _, _, rfl, by rw [HIN.out]; exact HW.out⟩
          · have e1 : (t.toList == s.toList) = false := by
              have : t.toList ≠ s.toList := fun h => he (toList_inj h)
              simpa using this
            have HIN := Aside0.mk (HSN.out hb he)
            clear hb he HSI HSS HSN
            obtain ⟨i0, hi0, hz0, hz1, hz2⟩ := info_parts info9s
            have t40 := Tryz.underlying28
            go_wp2_with (at_builtin; refine wpList_append_own _ rfl _ _ 28 rfl wr.heap.size 9 i0 (.string ⟨#[]⟩) 1 16 t40 hi0 hz0 hz1 hz2 rfl (by omega) (.slice none 0 0) 0 [] rfl (World.ownsRow_nil _ _ _ _) ⟨g, 0, none⟩ i _ ((l.take i).map Value.string) rfl ?qa1 ?qa2 ?qa3 ?qa4 ?qa5 (Nat.le_refl _) ?_)
            case qa1 => simp <;> omega
            case qa2 =>
              intro j u hj
              rw [Addr.add_lit, Nat.zero_add]
              exact HC.out j u (take_str hj)
            case qa3 => exact str_one _
            case qa4 => unfold maxLen; omega
            case qa5 => omega
            intro v1 W1 hown1 hg1 hnil1
            obtain ⟨A1, c1, rfl⟩ := owns_form hown1
            have HO1 := Aside0.mk (And.intro hown1 hg1)
            clear hown1 hg1 hnil1
            go_wp2_with (at_builtin; refine wpList_append_own _ rfl _ _ 28 rfl wr.heap.size 9 i0 (.string ⟨#[]⟩) 1 16 t40 hi0 hz0 hz1 hz2 rfl (by omega) _ _ _ rfl (HO1.out.1.alloc _) ⟨W1.heap.size, 0, none⟩ 1 1 [.string s] rfl rfl ?qb2 ?qb3 ?qb4 ?qb5 ?qb6 ?_)
            case qb2 =>
              intro j u hj
              rw [Addr.add_lit, Nat.zero_add, blk_cell (heap_alloc_new W1 _)]
              simpa using hj
            case qb3 => simp [Value.oneCell']
            case qb4 => unfold maxLen; omega
            case qb5 => omega
            case qb6 =>
              rw [World.size_alloc]
              have := HO1.out.2.size
              omega
            intro v2 W2 hown2 hg2 hnil2
            obtain ⟨A2, c2, rfl⟩ := owns_form hown2
            have HB2 : Aside0 (Below wr.heap.size wr W2) := ⟨by
              have hb1 : Below wr.heap.size wr W1 := grownBy_below HO1.out.2 (Nat.le_refl _) (fun _ e => by cases e)
              exact (below_mk hb1 _).trans (grownBy_below hg2 (below_mk hb1 _).size (fun k e => (HO1.out.1.lt k e).1))⟩
            have HO2 := Aside0.mk hown2
            clear hown2 hg2 hnil2
            go_wp2_with (at_builtin; refine wpList_append_own _ rfl _ _ 28 rfl wr.heap.size 9 i0 (.string ⟨#[]⟩) 1 16 t40 hi0 hz0 hz1 hz2 rfl (by omega) _ _ _ rfl HO2.out ⟨g, _, none⟩ _ _ ((l.drop i).map Value.string) rfl (by simp) ?qc2 ?qc3 ?qc4 ?qc5 ?qc6 ?_)
            case qc2 =>
              intro j u hj
              rw [Addr.add_lit]
              have := cell_below HB2.out (HC.out (i + j) u (drop_str hj))
              rw [← this]
            case qc3 => exact str_one _
            case qc4 => unfold maxLen; omega
            case qc5 => omega
            case qc6 => exact HB2.out.size
            intro v3 W3 hown3 hg3 hnil3
            go_wp2
            go_ret
            refine ⟨HB2.out.trans (grownBy_below hg3 HB2.out.size (fun k e => (HO2.out.lt k e).1)), _, rfl, ?_⟩
            rw [HIN.out]
            refine owns_mono ?_ hbase
            have e1 : i + 1 + (l.length - i) = (l.take i ++ [s] ++ l.drop i).length := by simp; omega
            rw [e1] at hown3
            simpa [List.map_take, List.map_drop] using hown3
        · have hb' : Op.bytesLess t.toList s.toList = true := hb
          have HSIA := Aside0.mk (HSI.out hb)
          clear hb HSI HSS HSN
          go_wp2_with fail
          go_roundw
          case measure => show l.length - (i + 1) < l.length - i; omega
          case rel => exact ⟨by first | rfl | trivial, i + 1, by first | rfl | (simp; done), by omega, HSIA⟩
      · have d1 : decide (((i : Nat) : Int) < ((l.length : Nat) : Int)) = false := decide_eq_false (by omega)
        obtain rfl : i = l.length := by omega
        have HIN := Aside0.mk (ins_end HI.out)
        obtain ⟨i0, hi0, hz0, hz1, hz2⟩ := info_parts info9s
        have t40 := Tryz.underlying28
        go_wp2_with (at_builtin; refine wpList_append_own _ rfl _ _ 28 rfl wr.heap.size 9 i0 (.string ⟨#[]⟩) 1 16 t40 hi0 hz0 hz1 hz2 rfl (by omega) (.slice none 0 0) 0 [] rfl (World.ownsRow_nil _ _ _ _) ⟨g, 0, none⟩ l.length _ ((l.take l.length).map Value.string) rfl ?qa1 ?qa2 ?qa3 ?qa4 ?qa5 (Nat.le_refl _) ?_)
        case qa1 => simp <;> omega
        case qa2 =>
          intro j u hj
          rw [Addr.add_lit, Nat.zero_add]
          exact HC.out j u (take_str hj)
        case qa3 => exact str_one _
        case qa4 => unfold maxLen; omega
        case qa5 => omega
        intro v1 W1 hown1 hg1 hnil1
        obtain ⟨A1, c1, rfl⟩ := owns_form hown1
        have HO1 := Aside0.mk (And.intro hown1 hg1)
        clear hown1 hg1 hnil1
        go_wp2_with (at_builtin; refine wpList_append_own _ rfl _ _ 28 rfl wr.heap.size 9 i0 (.string ⟨#[]⟩) 1 16 t40 hi0 hz0 hz1 hz2 rfl (by omega) _ _ _ rfl (HO1.out.1.alloc _) ⟨W1.heap.size, 0, none⟩ 1 1 [.string s] rfl rfl ?qb2 ?qb3 ?qb4 ?qb5 ?qb6 ?_)
        case qb2 =>
          intro j u hj
          rw [Addr.add_lit, Nat.zero_add, blk_cell (heap_alloc_new W1 _)]
          simpa using hj
        case qb3 => simp [Value.oneCell']
        case qb4 => unfold maxLen; omega
        case qb5 => omega
        case qb6 =>
          rw [World.size_alloc]
          have := HO1.out.2.size
          omega
        intro v2 W2 hown2 hg2 hnil2
        obtain ⟨A2, c2, rfl⟩ := owns_form hown2
        have HB2 : Aside0 (Below wr.heap.size wr W2) := ⟨by
          have hb1 : Below wr.heap.size wr W1 := grownBy_below HO1.out.2 (Nat.le_refl _) (fun _ e => by cases e)
          exact (below_mk hb1 _).trans (grownBy_below hg2 (below_mk hb1 _).size (fun k e => (HO1.out.1.lt k e).1))⟩
        have HO2 := Aside0.mk hown2
        clear hown2 hg2 hnil2
        obtain ⟨ad, had⟩ : ∃ ad, (if c = l.length then some (⟨g, 0, none⟩ : Addr) else some ⟨g, l.length, none⟩) = some ad := by split <;> exact ⟨_, rfl⟩
        go_wp2_with (at_builtin; refine wpList_append_own _ rfl _ _ 28 rfl wr.heap.size 9 i0 (.string ⟨#[]⟩) 1 16 t40 hi0 hz0 hz1 hz2 rfl (by omega) _ _ _ rfl HO2.out ad 0 (c - l.length) ((l.drop l.length).map Value.string) rfl (by simp) ?qc2 ?qc3 ?qc4 ?qc5 ?qc6 ?_)
        case qc2 =>
          intro j u hj
          simp at hj
        case qc3 => exact str_one _
        case qc4 => unfold maxLen; omega
        case qc5 => omega
        case qc6 => exact HB2.out.size
        intro v3 W3 hown3 hg3 hnil3
        go_wp2
        go_ret
        refine ⟨HB2.out.trans (grownBy_below hg3 HB2.out.size (fun k e => (HO2.out.lt k e).1)), _, rfl, ?_⟩
        rw [HIN.out]
        refine owns_mono ?_ hbase
        simpa [List.map_take, List.map_drop] using hown3
end Go.Proofs.YtknpkfjaffhejaaGreat

namespace Go.Proofs.YtknpkfjaffhejaaGreat
open Go.RowKit Go.Sort Go.Lib Go.Proofs.YtknpkfjaffhejaaGreatW.PrintWords Go.Proofs.YtknpkfjaffhejaaGreatW.PrintLast Go.Proofs.YtknpkfjaffhejaaGreatW.PrintMore
set_option linter.unusedVariables false
set_option linter.unusedSimpArgs false

theorem eqA33 (d : Nat) (w : World) (x0 y0 : ByteArray) (x1 y1 : Int) (x2 y2 : ByteArray) (x3 y3 : Int) (x4 y4 : Int) (x5 y5 : Bool) (x6 y6 : ByteArray) (x7 y7 : Int) (x8 y8 : ByteArray) (x9 y9 : Int) (xa ya : Int) (xb yb : Bool) :
    (Op.equalIn (d + 4) 42 (.agg #[.string x0, .int .i64 x1, .string x2, .int .i64 x3, .int .i64 x4, .bool x5, .string x6, .int .i64 x7, .string x8, .int .i64 x9, .int .i64 xa, .bool xb]) (.agg #[.string y0, .int .i64 y1, .string y2, .int .i64 y3, .int .i64 y4, .bool y5, .string y6, .int .i64 y7, .string y8, .int .i64 y9, .int .i64 ya, .bool yb])).run Tryz.prog w =
      .ok (((x0.toList == y0.toList && (x1 == y1)) && ((x2.toList == y2.toList && (x3 == y3)) && (x4 == y4 && (x5 == y5)))) && ((x6.toList == y6.toList && (x7 == y7)) && ((x8.toList == y8.toList && (x9 == y9)) && (xa == ya && (xb == yb))))) w := by
  refine eqA_of Tryz.underlying42 (by kernel_rfl) ?_
  refine eqf_cons (by rfl) (by go_simp) (by go_simp) (eqA31 (d + 0) w _ _ _ _ _ _ _ _ _ _ _ _) ?_
  exact eqf_last (by rfl) (by go_simp) (by go_simp) (eqA31 (d + 0) w _ _ _ _ _ _ _ _ _ _ _ _)
theorem neD (x : Edge × Edge) (w : World) : Sem.run Tryz.prog (binOp .neq 42 (.agg (encD x).toArray) (.agg (encD x).toArray)) w = .ok (.bool false) w := by
  obtain ⟨⟨p, n, q, m, k, v⟩, ⟨p', n', q', m', k', v'⟩⟩ := x
  rw [run_neq_struct, show (10000 : Nat) = 9996 + 4 from rfl]
  simp only [encD, encE, List.cons_append, List.nil_append]
  rw [eqA33]
  simp

theorem DaR.cells {W : World} {A : Option Addr} {n c : Nat} {l : List (Edge × Edge)} (h : DaR W (.slice A n c) l) (i : Nat) (hi : i < l.length) : n = l.length ∧ ∃ b off, A = some ⟨b, off, none⟩ ∧ ∀ j, j < 12 → W.cell? ⟨b, off + i * 12 + j, none⟩ = (encD l[i]!)[j]? := by
  obtain ⟨A', c', e, hA⟩ := h
  injection e with e1 e2 e3
  subst e1 e2
  have hl : l ≠ [] := fun e => by subst e; simp at hi
  obtain ⟨b, off, rfl, hc⟩ := hA hl
  refine ⟨rfl, b, off, rfl, fun j hj => ?_⟩
  have e := flatD_get l (i * 12 + j) (by omega)
  rw [show (i * 12 + j) / 12 = i by omega, show (i * 12 + j) % 12 = j by omega] at e
  have hlt : j < (encD l[i]!).length := by rw [encD_len]; exact hj
  rw [List.getElem?_eq_getElem hlt] at e ⊢
  have := hc _ _ e
  rwa [← Nat.add_assoc] at this

theorem DaR.form {W : World} {v : Value} {l : List (Edge × Edge)} (h : DaR W v l) : ∃ A c, v = .slice A l.length c := by
  obtain ⟨A, c, rfl, _⟩ := h
  exact ⟨A, c, rfl⟩

set_option maxRecDepth 100000 in
set_option maxHeartbeats 8000000 in
theorem sameDangers_calls (W : World) (v v' : Value) (l : List (Edge × Edge)) (h : DaR W v l) (h' : DaR W v' l) (hl : l.length ≤ 1099511627776) :
    Calls Tryz.prog 15 #[v, v'] W fun e W' => e = .returned (.bool true) ∧ Gr W W' := by
  obtain ⟨A, c, rfl⟩ := h.form
  obtain ⟨A', c', rfl⟩ := h'.form
  have HH := Aside0.mk (And.intro h h')
  have hne := neD
  clear h h'
  have e1 : (((l.length : Nat) : Int) == ((l.length : Nat) : Int)) = true := by simp
  have e2 : (((l.length : Nat) : Int) != ((l.length : Nat) : Int)) = false := by simp
  have hu33 := Tryz.underlying42
  go_enter Tryz.func15, Tryz.ntmps15
  go_wp2_with fail
  go_loopw [13] (fun v wr => ∃ i : Nat, v = .int .i64 (i : Nat) ∧ i ≤ l.length ∧ Aside0 (Gr W wr)) (fun v wr => l.length - (RowKit.intOf v).toNat)
  case atStart => exact ⟨0, rfl, Nat.zero_le _, ⟨Gr.refl _⟩⟩
  case round =>
    obtain ⟨i, rfl, hi, HI⟩ := hrel
    by_cases hlt : i < l.length
    · have d1 : decide (((i : Nat) : Int) < ((l.length : Nat) : Int)) = true := decide_eq_true (by omega)
      have p0 : ((0 : Int) ≤ ((i : Nat) : Int)) = True := eq_true (by omega)
      have p1 : (((i : Nat) : Int) < ((l.length : Nat) : Int)) = True := eq_true (by omega)
      obtain ⟨_, b, off, rfl, hy⟩ := (HH.out.1.below HI.out.below).cells i hlt
      obtain ⟨_, b', off', rfl, hy'⟩ := (HH.out.2.below HI.out.below).cells i hlt
      have hne1 := fun w => hne l[i]! w
      obtain ⟨⟨⟨p, n, q, m, k, vv⟩, ⟨p', n', q', m', k', vv'⟩⟩, hxe⟩ : ∃ y, l[i]! = y := ⟨_, rfl⟩
      rw [hxe] at hy hy' hne1
      have hne2 : ∀ w, Sem.run Tryz.prog (binOp .neq 42 (.agg #[.string p, .int .i64 n, .string q, .int .i64 m, .int .i64 k, .bool vv, .string p', .int .i64 n', .string q', .int .i64 m', .int .i64 k', .bool vv']) (.agg #[.string p, .int .i64 n, .string q, .int .i64 m, .int .i64 k, .bool vv, .string p', .int .i64 n', .string q', .int .i64 m', .int .i64 k', .bool vv'])) w = .ok (.bool false) w := hne1
      have y0 : wr.cell? ⟨b, off + i * 12, none⟩ = some (.string p) := hy 0 (by omega)
      have y1 : wr.cell? ⟨b, off + i * 12 + 1, none⟩ = some (.int .i64 n) := hy 1 (by omega)
      have y2 : wr.cell? ⟨b, off + i * 12 + 2, none⟩ = some (.string q) := hy 2 (by omega)
      have y3 : wr.cell? ⟨b, off + i * 12 + 3, none⟩ = some (.int .i64 m) := hy 3 (by omega)
      have y4 : wr.cell? ⟨b, off + i * 12 + 4, none⟩ = some (.int .i64 k) := hy 4 (by omega)
      have y5 : wr.cell? ⟨b, off + i * 12 + 5, none⟩ = some (.bool vv) := hy 5 (by omega)
      have y6 : wr.cell? ⟨b, off + i * 12 + 6, none⟩ = some (.string p') := hy 6 (by omega)
      have y7 : wr.cell? ⟨b, off + i * 12 + 7, none⟩ = some (.int .i64 n') := hy 7 (by omega)
      have y8 : wr.cell? ⟨b, off + i * 12 + 8, none⟩ = some (.string q') := hy 8 (by omega)
      have y9 : wr.cell? ⟨b, off + i * 12 + 9, none⟩ = some (.int .i64 m') := hy 9 (by omega)
      have ya : wr.cell? ⟨b, off + i * 12 + 10, none⟩ = some (.int .i64 k') := hy 10 (by omega)
      have yb : wr.cell? ⟨b, off + i * 12 + 11, none⟩ = some (.bool vv') := hy 11 (by omega)
      have z0 : wr.cell? ⟨b', off' + i * 12, none⟩ = some (.string p) := hy' 0 (by omega)
      have z1 : wr.cell? ⟨b', off' + i * 12 + 1, none⟩ = some (.int .i64 n) := hy' 1 (by omega)
      have z2 : wr.cell? ⟨b', off' + i * 12 + 2, none⟩ = some (.string q) := hy' 2 (by omega)
      have z3 : wr.cell? ⟨b', off' + i * 12 + 3, none⟩ = some (.int .i64 m) := hy' 3 (by omega)
      have z4 : wr.cell? ⟨b', off' + i * 12 + 4, none⟩ = some (.int .i64 k) := hy' 4 (by omega)
      have z5 : wr.cell? ⟨b', off' + i * 12 + 5, none⟩ = some (.bool vv) := hy' 5 (by omega)
      have z6 : wr.cell? ⟨b', off' + i * 12 + 6, none⟩ = some (.string p') := hy' 6 (by omega)
      have z7 : wr.cell? ⟨b', off' + i * 12 + 7, none⟩ = some (.int .i64 n') := hy' 7 (by omega)
      have z8 : wr.cell? ⟨b', off' + i * 12 + 8, none⟩ = some (.string q') := hy' 8 (by omega)
      have z9 : wr.cell? ⟨b', off' + i * 12 + 9, none⟩ = some (.int .i64 m') := hy' 9 (by omega)
      have za : wr.cell? ⟨b', off' + i * 12 + 10, none⟩ = some (.int .i64 k') := hy' 10 (by omega)
      have zb : wr.cell? ⟨b', off' + i * 12 + 11, none⟩ = some (.bool vv') := hy' 11 (by omega)
      clear hy hy' hne hne1 hxe
      go_wp2_with fail
      have HSK : Aside0 (∀ W', Gr wr W' → ((W'.cell? ⟨b, off + i * 12, none⟩ = some (.string p) ∧ W'.cell? ⟨b, off + i * 12 + 1, none⟩ = some (.int .i64 n) ∧ W'.cell? ⟨b, off + i * 12 + 2, none⟩ = some (.string q) ∧ W'.cell? ⟨b, off + i * 12 + 3, none⟩ = some (.int .i64 m) ∧ W'.cell? ⟨b, off + i * 12 + 4, none⟩ = some (.int .i64 k) ∧ W'.cell? ⟨b, off + i * 12 + 5, none⟩ = some (.bool vv) ∧ W'.cell? ⟨b, off + i * 12 + 6, none⟩ = some (.string p') ∧ W'.cell? ⟨b, off + i * 12 + 7, none⟩ = some (.int .i64 n') ∧ W'.cell? ⟨b, off + i * 12 + 8, none⟩ = some (.string q') ∧ W'.cell? ⟨b, off + i * 12 + 9, none⟩ = some (.int .i64 m') ∧ W'.cell? ⟨b, off + i * 12 + 10, none⟩ = some (.int .i64 k') ∧ W'.cell? ⟨b, off + i * 12 + 11, none⟩ = some (.bool vv') ∧ W'.cell? ⟨b', off' + i * 12, none⟩ = some (.string p) ∧ W'.cell? ⟨b', off' + i * 12 + 1, none⟩ = some (.int .i64 n) ∧ W'.cell? ⟨b', off' + i * 12 + 2, none⟩ = some (.string q) ∧ W'.cell? ⟨b', off' + i * 12 + 3, none⟩ = some (.int .i64 m) ∧ W'.cell? ⟨b', off' + i * 12 + 4, none⟩ = some (.int .i64 k) ∧ W'.cell? ⟨b', off' + i * 12 + 5, none⟩ = some (.bool vv) ∧ W'.cell? ⟨b', off' + i * 12 + 6, none⟩ = some (.string p') ∧ W'.cell? ⟨b', off' + i * 12 + 7, none⟩ = some (.int .i64 n') ∧ W'.cell? ⟨b', off' + i * 12 + 8, none⟩ = some (.string q') ∧ W'.cell? ⟨b', off' + i * 12 + 9, none⟩ = some (.int .i64 m') ∧ W'.cell? ⟨b', off' + i * 12 + 10, none⟩ = some (.int .i64 k') ∧ W'.cell? ⟨b', off' + i * 12 + 11, none⟩ = some (.bool vv')) ∧ Gr wr W')) := ⟨fun W' hg => ⟨⟨cell_below hg.below y0, cell_below hg.below y1, cell_below hg.below y2, cell_below hg.below y3, cell_below hg.below y4, cell_below hg.below y5, cell_below hg.below y6, cell_below hg.below y7, cell_below hg.below y8, cell_below hg.below y9, cell_below hg.below ya, cell_below hg.below yb, cell_below hg.below z0, cell_below hg.below z1, cell_below hg.below z2, cell_below hg.below z3, cell_below hg.below z4, cell_below hg.below z5, cell_below hg.below z6, cell_below hg.below z7, cell_below hg.below z8, cell_below hg.below z9, cell_below hg.below za, cell_below hg.below zb⟩, hg⟩⟩
      go_region_held3 (fun W' => (W'.cell? ⟨b, off + i * 12, none⟩ = some (.string p) ∧ W'.cell? ⟨b, off + i * 12 + 1, none⟩ = some (.int .i64 n) ∧ W'.cell? ⟨b, off + i * 12 + 2, none⟩ = some (.string q) ∧ W'.cell? ⟨b, off + i * 12 + 3, none⟩ = some (.int .i64 m) ∧ W'.cell? ⟨b, off + i * 12 + 4, none⟩ = some (.int .i64 k) ∧ W'.cell? ⟨b, off + i * 12 + 5, none⟩ = some (.bool vv) ∧ W'.cell? ⟨b, off + i * 12 + 6, none⟩ = some (.string p') ∧ W'.cell? ⟨b, off + i * 12 + 7, none⟩ = some (.int .i64 n') ∧ W'.cell? ⟨b, off + i * 12 + 8, none⟩ = some (.string q') ∧ W'.cell? ⟨b, off + i * 12 + 9, none⟩ = some (.int .i64 m') ∧ W'.cell? ⟨b, off + i * 12 + 10, none⟩ = some (.int .i64 k') ∧ W'.cell? ⟨b, off + i * 12 + 11, none⟩ = some (.bool vv') ∧ W'.cell? ⟨b', off' + i * 12, none⟩ = some (.string p) ∧ W'.cell? ⟨b', off' + i * 12 + 1, none⟩ = some (.int .i64 n) ∧ W'.cell? ⟨b', off' + i * 12 + 2, none⟩ = some (.string q) ∧ W'.cell? ⟨b', off' + i * 12 + 3, none⟩ = some (.int .i64 m) ∧ W'.cell? ⟨b', off' + i * 12 + 4, none⟩ = some (.int .i64 k) ∧ W'.cell? ⟨b', off' + i * 12 + 5, none⟩ = some (.bool vv) ∧ W'.cell? ⟨b', off' + i * 12 + 6, none⟩ = some (.string p') ∧ W'.cell? ⟨b', off' + i * 12 + 7, none⟩ = some (.int .i64 n') ∧ W'.cell? ⟨b', off' + i * 12 + 8, none⟩ = some (.string q') ∧ W'.cell? ⟨b', off' + i * 12 + 9, none⟩ = some (.int .i64 m') ∧ W'.cell? ⟨b', off' + i * 12 + 10, none⟩ = some (.int .i64 k') ∧ W'.cell? ⟨b', off' + i * 12 + 11, none⟩ = some (.bool vv')) ∧ Gr wr W') (exact HSK.out _ (by repeat (first | assumption | exact Gr.refl _ | refine Gr.drew ?_ | refine Gr.alloc ?_ _))) (fail)
      rename_i hlast
      have hgr := hlast.2
      have HG := Aside0.mk hgr
      clear hlast hgr
      go_wp2_with fail
      go_roundw
      case measure => show l.length - (i + 1) < l.length - i; omega
      case rel => exact ⟨i + 1, by first | rfl | (simp; done), by omega, ⟨HI.out.trans HG.out⟩⟩
    · have d1 : decide (((i : Nat) : Int) < ((l.length : Nat) : Int)) = false := decide_eq_false (by omega)
      go_wp2_with fail
      go_ret
      exact ⟨rfl, HI.out⟩
end Go.Proofs.YtknpkfjaffhejaaGreat
