/- WHAT IS PROVED: GraphDangers answers true at edges. -/
import Derived.Test.YtknpkfjaffhejaaPr
import Derived.Test.YtknpkfjaffhejaaPv
import Derived.Test.YtknpkfjaffhejaaBg
namespace Go.Proofs.Ytknpkfjaffhejaa
open Go.RowKit Go.Sort Go.Lib Go.Proofs.YtknpkfjaffhejaaW.PrintWords Go.Proofs.YtknpkfjaffhejaaW.PrintLast Go.Proofs.YtknpkfjaffhejaaW.PrintMore
set_option linter.unusedVariables false
set_option linter.unusedSimpArgs false

theorem names_eq {D : List (Edge × Edge)} {names : List ByteArray} (h1 : names.Pairwise (fun x y => blt x y = true)) (h2 : ∀ s, s ∈ names ↔ s ∈ D.map fun x => x.1.q) : names = refP D :=
  sorted_uniq bltSto _ _ h1 (insAll_sorted bltSto _) fun x => by rw [refP, mem_insAll bltSto, h2]
theorem DaR.take {W : World} {A : Option Addr} {n c c' : Nat} {l : List (Edge × Edge)} (h : DaR W (.slice A n c) l) (m : Nat) (hm : m ≤ l.length) : DaR W (.slice A m c') (l.take m) := by
  obtain ⟨A', c1, e, hA⟩ := h
  injection e with e1 e2 e3
  subst e1
  refine ⟨A, c', by rw [List.length_take, Nat.min_eq_left hm], fun hl => ?_⟩
  have hl' : l ≠ [] := fun e => by subst e; simp at hl
  obtain ⟨b, off, rfl, hc⟩ := hA hl'
  refine ⟨b, off, rfl, fun j u hj => hc j u ?_⟩
  have e : flatD l = flatD (l.take m) ++ flatD (l.drop m) := by rw [← flatD_app, List.take_append_drop]
  rw [e, List.getElem?_append_left (List.getElem?_eq_some_iff.1 hj).1]
  exact hj
theorem cut_all (D : List (Edge × Edge)) : cutD (((D.length : Nat) : Int) + 1) D = D := by
  unfold cutD
  rw [if_pos (by omega)]
  exact List.take_of_length_le (by omega)
theorem cut_at (D : List (Edge × Edge)) (m : Nat) : cutD (m : Int) D = D.take m := by
  unfold cutD
  rw [if_pos (by omega)]
  rfl

set_option maxRecDepth 100000 in
set_option maxHeartbeats 8000000 in
theorem graphDangers_calls (W : World) (v : Value) (l : List Edge) (most : Int) {m0 : Nat} (h : EdR m0 W v l) (hn : l.length ≤ 1048576) (hs : ∀ e ∈ l, okE e) :
    Calls Try.prog 4 #[v, .int .i64 most] W fun e W' => e = .returned (.bool true) ∧ Below W.heap.size W W' := by
  have h' := h
  obtain ⟨A, c, rfl, _⟩ := h'
  have hDL : (dangersE (vulE l)).length ≤ 1099511627776 := dangers_len _ (Nat.le_trans (vulE_len l) hn)
  have H11 : Aside0 (Calls Try.prog 11 #[.slice A l.length c] W fun e W' => Below W.heap.size W W' ∧ ∃ v', e = .returned v' ∧ W'.ownsRow W.heap.size 33 12 v' (dangersE (vulE l)).length (flatD (dangersE (vulE l)))) := ⟨by rw [← refV_eq]; exact refD_calls W _ l h hn⟩
  have H15 : Aside0 (∀ W', Below W.heap.size W W' → Calls Try.prog 15 #[.slice A l.length c] W' fun e W'' => Below W'.heap.size W' W'' ∧ ∃ A' c', e = .returned (.slice A' (refP (dangersE (vulE l))).length c') ∧ StR W'' (.slice A' (refP (dangersE (vulE l))).length c') (refP (dangersE (vulE l)))) := ⟨fun W' hb => by
    have := refP_calls W' _ l (h.below hb) hn
    rw [refV_eq] at this
    refine this.mono ?_
    rintro e W'' ⟨hb2, v', rfl, how⟩
    obtain ⟨A', c', rfl⟩ := owns_form how
    exact ⟨hb2, A', c', rfl, StR.of_owns how⟩⟩
  have H14 : Aside0 (∀ W', Below W.heap.size W W' → Calls Try.prog 14 #[.slice A l.length c] W' fun e W'' => Below W'.heap.size W' W'' ∧ ∃ A' c', e = .returned (.slice A' (refP (dangersE (vulE l))).length c') ∧ StR W'' (.slice A' (refP (dangersE (vulE l))).length c') (refP (dangersE (vulE l)))) := ⟨fun W' hb => by
    refine (pivots_calls W' _ l (h.below hb) hn hs).mono ?_
    rintro e W'' ⟨v', names, rfl, how, h1, h2, hb2⟩
    obtain rfl := names_eq h1 h2
    obtain ⟨A', c', rfl⟩ := owns_form how
    exact ⟨hb2, A', c', rfl, StR.of_owns how⟩⟩
  have H10 : Aside0 (∀ W', Below W.heap.size W W' → Calls Try.prog 10 #[.slice A l.length c] W' fun e W'' => Below W'.heap.size W' W'' ∧ e = .returned (.bool ((((dangersE (vulE l)).length : Nat) : Int) == 0))) := ⟨fun W' hb => (safe_calls W' _ l (h.below hb) hn hs).mono fun e W'' ⟨he, hb2⟩ => ⟨hb2, he.trans (by congr 2; rw [Bool.eq_iff_iff]; simp)⟩⟩
  have H6 : Aside0 (∀ W' (most : Int), Below W.heap.size W W' → Calls Try.prog 6 #[.slice A l.length c, .int .i64 most] W' fun e W'' => Below W'.heap.size W' W'' ∧ ∃ A' c', e = .returned (.slice A' (cutD most (dangersE (vulE l))).length c') ∧ DaR W'' (.slice A' (cutD most (dangersE (vulE l))).length c') (cutD most (dangersE (vulE l)))) := ⟨fun W' most hb => by
    refine (dangers_calls W' _ l most (h.below hb) hn hs).mono ?_
    rintro e W'' ⟨v', rfl, how, hb2⟩
    obtain ⟨A', c', rfl⟩ := owns_form how
    exact ⟨hb2, A', c', rfl, DaR.of_owns how⟩⟩
  have HPL : Aside0 ((refP (dangersE (vulE l))).length ≤ 1099511627776) := ⟨Nat.le_trans (refP_len _) hDL⟩
  generalize dangersE (vulE l) = D at *
  have H5 : Aside0 (∀ W', Calls Try.prog 5 #[] W' fun e W'' => Below W'.heap.size W' W'' ∧ e = .returned (.bool true)) := ⟨fun W' => (begun_calls W').mono fun e W'' ⟨he, hb⟩ => ⟨hb, he⟩⟩
  have H12 : Aside0 (∀ W' v v' (L : List (Edge × Edge)), DaR W' v L → DaR W' v' L → L.length ≤ 1099511627776 → Calls Try.prog 12 #[v, v'] W' fun e W'' => Below W'.heap.size W' W'' ∧ e = .returned (.bool true)) := ⟨fun W' v v' L h1 h2 h3 => (sameDangers_calls W' v v' L h1 h2 h3).mono fun e W'' ⟨he, hg⟩ => ⟨hg.below, he⟩⟩
  have H13 : Aside0 (∀ W' v v' (L : List ByteArray), StR W' v L → StR W' v' L → L.length ≤ 1099511627776 → Calls Try.prog 13 #[v, v'] W' fun e W'' => Below W'.heap.size W' W'' ∧ e = .returned (.bool true)) := ⟨fun W' v v' L h1 h2 h3 => (sameNames_calls W' v v' L h1 h2 h3).mono fun e W'' ⟨he, hg⟩ => ⟨hg.below, he⟩⟩
  have HDL := Aside0.mk hDL
  clear h hs hn
  have hdw : ((D.length : Nat) : Int) + 1 < 9223372036854775808 := by omega
  go_enter Try.func4, Try.ntmps4
  go_wp2_with (go_at_call 11; refine H11.out.mono ?_; rintro e W1 ⟨hb1, v1, rfl, how1⟩)
  have HB1 := Aside0.mk hb1
  have HCL : Aside0 (∀ m : Nat, (cutD ((m : Nat) : Int) D).length ≤ 1099511627776) := ⟨fun m => by rw [cut_at, List.length_take]; omega⟩
  have HTK0 : Aside0 (∀ A5 c5, v1 = .slice A5 D.length c5 → ∀ W' (m : Nat), m ≤ D.length → Below W1.heap.size W1 W' → DaR W' (.slice A5 m c5) (cutD (m : Int) D)) := ⟨fun A5 c5 e W' m hm hb => by
    subst e
    rw [cut_at]
    exact ((DaR.of_owns how1).below hb).take m hm⟩
  rcases owns_kind how1 with ⟨rfl, h1, h2⟩ | ⟨g, c5, rfl, _, hlc, _⟩
  · obtain rfl : D = [] := List.length_eq_zero_iff.1 h1
    have HDD : Aside0 (∀ W', Below W1.heap.size W1 W' → DaR W' (.slice none 0 0) ([] : List (Edge × Edge))) := ⟨fun W' hb => ⟨none, 0, rfl, fun h => absurd rfl h⟩⟩
    have hc0 : ∀ m : Int, cutD m ([] : List (Edge × Edge)) = [] := fun m => by unfold cutD; split <;> simp
    simp only [hc0, List.length_nil] at H6
    clear how1 hb1 HTK0 h1 h2 HCL
    by_cases hm0 : most < 0
    · have b1 : decide (most < 0) = true := decide_eq_true hm0
      go_wp2_with (first
        | (go_at_call 5; refine (H5.out _).mono ?_; rintro e W2 ⟨hb2, rfl⟩; have HB2 := Aside0.mk (And.intro (below_to HB1.out hb2) hb2); clear hb2)
        | (go_at_call 6; refine (H6.out _ 1 HB2.out.1).mono ?_; rintro e W3 ⟨hb3, A3, c3, rfl, hd3⟩; have HB3 := Aside0.mk (And.intro (below_to HB2.out.1 hb3) (below_to HB2.out.2 hb3)); have HD3 := Aside0.mk hd3; clear hb3 hd3)
        | (go_at_call 12; refine (H12.out _ _ _ _ HD3.out (HDD.out _ HB3.out.2) HDL.out).mono ?_; rintro e W4 ⟨hb4, rfl⟩; have HB4 := Aside0.mk (And.intro (below_to HB3.out.1 hb4) (below_to HB3.out.2 hb4)); clear hb4)
        | (go_at_call 10; refine (H10.out _ HB4.out.1).mono ?_; rintro e W5 ⟨hb5, rfl⟩; have HB5 := Aside0.mk (And.intro (below_to HB4.out.1 hb5) (below_to HB4.out.2 hb5)); clear hb5)
        | (go_at_call 14; refine (H14.out _ HB5.out.1).mono ?_; rintro e W6 ⟨hb6, A6, c6, rfl, hn6⟩; have HB6 := Aside0.mk (And.intro (below_to HB5.out.1 hb6) (below_to HB5.out.2 hb6)); have HN6 := Aside0.mk hn6; clear hb6 hn6)
        | (go_at_call 15; refine (H15.out _ HB6.out.1).mono ?_; rintro e W7 ⟨hb7, A7, c7, rfl, hn7⟩; have HB7 := Aside0.mk (And.intro (below_to HB6.out.1 hb7) (below_to HB6.out.2 hb7)); have HN7 := Aside0.mk (And.intro (HN6.out.below hb7) hn7); clear hb7 hn7)
        | (go_at_call 13; refine (H13.out _ _ _ _ HN7.out.1 HN7.out.2 HPL.out).mono ?_; rintro e W8 ⟨hb8, rfl⟩; have HB8 := Aside0.mk (And.intro (below_to HB7.out.1 hb8) (below_to HB7.out.2 hb8)); clear hb8))
      go_region_held3 (fun W' => Below W8.heap.size W8 W') (first | assumption | exact Below.refl _ _ | exact (Gr.refl W8).drew.below | exact below_to (by assumption) (Gr.refl _).drew.below) (first | (go_at_call 6; refine (H6.out _ _ (below_to HB8.out.1 (by assumption))).mono ?_; rintro e W9 ⟨hb9, A9, c9, rfl, hd9⟩; have hq9 : Below W8.heap.size W8 W9 := below_to (by assumption) hb9) | (go_at_call 12; refine (H12.out _ _ _ [] hd9 (HDD.out _ (below_to HB8.out.2 hq9)) (Nat.zero_le _)).mono ?_; rintro e W10 ⟨hb10, rfl⟩; have hq10 : Below W8.heap.size W8 W10 := below_to hq9 hb10))
      rename_i hlast
      have HLA := Aside0.mk hlast
      clear hlast
      go_wp2_with fail
      go_ret
      exact ⟨rfl, below_to HB8.out.1 HLA.out⟩
    · have b1 : decide (most < 0) = false := decide_eq_false hm0
      by_cases hm1 : 0 < most
      · have b2 : decide (0 < most) = true := decide_eq_true hm1
        go_wp2_with (first
          | (go_at_call 5; refine (H5.out _).mono ?_; rintro e W2 ⟨hb2, rfl⟩; have HB2 := Aside0.mk (And.intro (below_to HB1.out hb2) hb2); clear hb2)
          | (go_at_call 6; refine (H6.out _ 1 HB2.out.1).mono ?_; rintro e W3 ⟨hb3, A3, c3, rfl, hd3⟩; have HB3 := Aside0.mk (And.intro (below_to HB2.out.1 hb3) (below_to HB2.out.2 hb3)); have HD3 := Aside0.mk hd3; clear hb3 hd3)
          | (go_at_call 12; refine (H12.out _ _ _ _ HD3.out (HDD.out _ HB3.out.2) HDL.out).mono ?_; rintro e W4 ⟨hb4, rfl⟩; have HB4 := Aside0.mk (And.intro (below_to HB3.out.1 hb4) (below_to HB3.out.2 hb4)); clear hb4)
          | (go_at_call 10; refine (H10.out _ HB4.out.1).mono ?_; rintro e W5 ⟨hb5, rfl⟩; have HB5 := Aside0.mk (And.intro (below_to HB4.out.1 hb5) (below_to HB4.out.2 hb5)); clear hb5)
          | (go_at_call 14; refine (H14.out _ HB5.out.1).mono ?_; rintro e W6 ⟨hb6, A6, c6, rfl, hn6⟩; have HB6 := Aside0.mk (And.intro (below_to HB5.out.1 hb6) (below_to HB5.out.2 hb6)); have HN6 := Aside0.mk hn6; clear hb6 hn6)
          | (go_at_call 15; refine (H15.out _ HB6.out.1).mono ?_; rintro e W7 ⟨hb7, A7, c7, rfl, hn7⟩; have HB7 := Aside0.mk (And.intro (below_to HB6.out.1 hb7) (below_to HB6.out.2 hb7)); have HN7 := Aside0.mk (And.intro (HN6.out.below hb7) hn7); clear hb7 hn7)
          | (go_at_call 13; refine (H13.out _ _ _ _ HN7.out.1 HN7.out.2 HPL.out).mono ?_; rintro e W8 ⟨hb8, rfl⟩; have HB8 := Aside0.mk (And.intro (below_to HB7.out.1 hb8) (below_to HB7.out.2 hb8)); clear hb8))
        go_region_held3 (fun W' => Below W8.heap.size W8 W') (first | assumption | exact Below.refl _ _ | exact (Gr.refl W8).drew.below | exact below_to (by assumption) (Gr.refl _).drew.below) (first | (go_at_call 6; refine (H6.out _ _ (below_to HB8.out.1 (by assumption))).mono ?_; rintro e W9 ⟨hb9, A9, c9, rfl, hd9⟩; have hq9 : Below W8.heap.size W8 W9 := below_to (by assumption) hb9) | (go_at_call 12; refine (H12.out _ _ _ [] hd9 (HDD.out _ (below_to HB8.out.2 hq9)) (Nat.zero_le _)).mono ?_; rintro e W10 ⟨hb10, rfl⟩; have hq10 : Below W8.heap.size W8 W10 := below_to hq9 hb10))
        rename_i hlast
        have HLA := Aside0.mk hlast
        clear hlast
        go_wp2_with fail
        go_ret
        exact ⟨rfl, below_to HB8.out.1 HLA.out⟩
      · obtain rfl : most = 0 := by omega
        go_wp2_with (first
          | (go_at_call 5; refine (H5.out _).mono ?_; rintro e W2 ⟨hb2, rfl⟩; have HB2 := Aside0.mk (And.intro (below_to HB1.out hb2) hb2); clear hb2)
          | (go_at_call 6; refine (H6.out _ 1 HB2.out.1).mono ?_; rintro e W3 ⟨hb3, A3, c3, rfl, hd3⟩; have HB3 := Aside0.mk (And.intro (below_to HB2.out.1 hb3) (below_to HB2.out.2 hb3)); have HD3 := Aside0.mk hd3; clear hb3 hd3)
          | (go_at_call 12; refine (H12.out _ _ _ _ HD3.out (HDD.out _ HB3.out.2) HDL.out).mono ?_; rintro e W4 ⟨hb4, rfl⟩; have HB4 := Aside0.mk (And.intro (below_to HB3.out.1 hb4) (below_to HB3.out.2 hb4)); clear hb4)
          | (go_at_call 10; refine (H10.out _ HB4.out.1).mono ?_; rintro e W5 ⟨hb5, rfl⟩; have HB5 := Aside0.mk (And.intro (below_to HB4.out.1 hb5) (below_to HB4.out.2 hb5)); clear hb5)
          | (go_at_call 14; refine (H14.out _ HB5.out.1).mono ?_; rintro e W6 ⟨hb6, A6, c6, rfl, hn6⟩; have HB6 := Aside0.mk (And.intro (below_to HB5.out.1 hb6) (below_to HB5.out.2 hb6)); have HN6 := Aside0.mk hn6; clear hb6 hn6)
          | (go_at_call 15; refine (H15.out _ HB6.out.1).mono ?_; rintro e W7 ⟨hb7, A7, c7, rfl, hn7⟩; have HB7 := Aside0.mk (And.intro (below_to HB6.out.1 hb7) (below_to HB6.out.2 hb7)); have HN7 := Aside0.mk (And.intro (HN6.out.below hb7) hn7); clear hb7 hn7)
          | (go_at_call 13; refine (H13.out _ _ _ _ HN7.out.1 HN7.out.2 HPL.out).mono ?_; rintro e W8 ⟨hb8, rfl⟩; have HB8 := Aside0.mk (And.intro (below_to HB7.out.1 hb8) (below_to HB7.out.2 hb8)); clear hb8))
        go_region_held3 (fun W' => Below W8.heap.size W8 W') (first | assumption | exact Below.refl _ _ | exact (Gr.refl W8).drew.below | exact below_to (by assumption) (Gr.refl _).drew.below) (first | (go_at_call 6; refine (H6.out _ _ (below_to HB8.out.1 (by assumption))).mono ?_; rintro e W9 ⟨hb9, A9, c9, rfl, hd9⟩; have hq9 : Below W8.heap.size W8 W9 := below_to (by assumption) hb9) | (go_at_call 12; refine (H12.out _ _ _ [] hd9 (HDD.out _ (below_to HB8.out.2 hq9)) (Nat.zero_le _)).mono ?_; rintro e W10 ⟨hb10, rfl⟩; have hq10 : Below W8.heap.size W8 W10 := below_to hq9 hb10))
        rename_i hlast
        have HLA := Aside0.mk hlast
        clear hlast
        go_wp2_with fail
        go_ret
        exact ⟨rfl, below_to HB8.out.1 HLA.out⟩
  · have HTK := Aside0.mk (HTK0.out _ _ rfl)
    have HDD : Aside0 (∀ W', Below W1.heap.size W1 W' → DaR W' (.slice (some ⟨g, 0, none⟩) D.length c5) D) := ⟨fun W' hb => (DaR.of_owns how1).below hb⟩
    clear how1 hb1 HTK0
    by_cases hm0 : most < 0
    · have b1 : decide (most < 0) = true := decide_eq_true hm0
      go_wp2_with (first
        | (go_at_call 5; refine (H5.out _).mono ?_; rintro e W2 ⟨hb2, rfl⟩; have HB2 := Aside0.mk (And.intro (below_to HB1.out hb2) hb2); clear hb2)
        | (go_at_call 6; refine (H6.out _ _ HB2.out.1).mono ?_; rintro e W3 ⟨hb3, A3, c3, rfl, hd3⟩; rw [cut_all] at hd3 ⊢; have HB3 := Aside0.mk (And.intro (below_to HB2.out.1 hb3) (below_to HB2.out.2 hb3)); have HD3 := Aside0.mk hd3; clear hb3 hd3)
        | (go_at_call 12; refine (H12.out _ _ _ _ HD3.out (HDD.out _ HB3.out.2) HDL.out).mono ?_; rintro e W4 ⟨hb4, rfl⟩; have HB4 := Aside0.mk (And.intro (below_to HB3.out.1 hb4) (below_to HB3.out.2 hb4)); clear hb4)
        | (go_at_call 10; refine (H10.out _ HB4.out.1).mono ?_; rintro e W5 ⟨hb5, rfl⟩; have HB5 := Aside0.mk (And.intro (below_to HB4.out.1 hb5) (below_to HB4.out.2 hb5)); clear hb5)
        | (go_at_call 14; refine (H14.out _ HB5.out.1).mono ?_; rintro e W6 ⟨hb6, A6, c6, rfl, hn6⟩; have HB6 := Aside0.mk (And.intro (below_to HB5.out.1 hb6) (below_to HB5.out.2 hb6)); have HN6 := Aside0.mk hn6; clear hb6 hn6)
        | (go_at_call 15; refine (H15.out _ HB6.out.1).mono ?_; rintro e W7 ⟨hb7, A7, c7, rfl, hn7⟩; have HB7 := Aside0.mk (And.intro (below_to HB6.out.1 hb7) (below_to HB6.out.2 hb7)); have HN7 := Aside0.mk (And.intro (HN6.out.below hb7) hn7); clear hb7 hn7)
        | (go_at_call 13; refine (H13.out _ _ _ _ HN7.out.1 HN7.out.2 HPL.out).mono ?_; rintro e W8 ⟨hb8, rfl⟩; have HB8 := Aside0.mk (And.intro (below_to HB7.out.1 hb8) (below_to HB7.out.2 hb8)); clear hb8))
      have p0 : ((0 : Int) ≤ ((D.length : Nat) : Int)) = True := eq_true (by omega)
      have p1 : (((D.length : Nat) : Int) ≤ ((c5 : Nat) : Int)) = True := eq_true (by omega)
      have HCM : Aside0 ((cutD ((D.length : Nat) : Int) D).length ≤ 1099511627776) := ⟨HCL.out D.length⟩
      have HTM : Aside0 (∀ W', Below W1.heap.size W1 W' → DaR W' (.slice (some ⟨g, 0, none⟩) D.length c5) (cutD ((D.length : Nat) : Int) D)) := ⟨fun W' hb => HTK.out W' D.length (by omega) hb⟩
      go_region_held3 (fun W' => Below W8.heap.size W8 W') (first | assumption | exact Below.refl _ _ | exact (Gr.refl W8).drew.below | exact below_to (by assumption) (Gr.refl _).drew.below) (first | (go_at_call 6; refine (H6.out _ _ (below_to HB8.out.1 (by assumption))).mono ?_; rintro e W9 ⟨hb9, A9, c9, rfl, hd9⟩; have hq9 : Below W8.heap.size W8 W9 := below_to (by assumption) hb9) | (go_at_call 12; refine (H12.out _ _ _ _ hd9 (HTM.out _ (below_to HB8.out.2 hq9)) HCM.out).mono ?_; rintro e W10 ⟨hb10, rfl⟩; have hq10 : Below W8.heap.size W8 W10 := below_to hq9 hb10))
      rename_i hlast
      have HLA := Aside0.mk hlast
      clear hlast
      go_wp2_with fail
      go_ret
      exact ⟨rfl, below_to HB8.out.1 HLA.out⟩
    · have b1 : decide (most < 0) = false := decide_eq_false hm0
      by_cases hm1 : ((D.length : Nat) : Int) < most
      · have b2 : decide (((D.length : Nat) : Int) < most) = true := decide_eq_true hm1
        go_wp2_with (first
          | (go_at_call 5; refine (H5.out _).mono ?_; rintro e W2 ⟨hb2, rfl⟩; have HB2 := Aside0.mk (And.intro (below_to HB1.out hb2) hb2); clear hb2)
          | (go_at_call 6; refine (H6.out _ _ HB2.out.1).mono ?_; rintro e W3 ⟨hb3, A3, c3, rfl, hd3⟩; rw [cut_all] at hd3 ⊢; have HB3 := Aside0.mk (And.intro (below_to HB2.out.1 hb3) (below_to HB2.out.2 hb3)); have HD3 := Aside0.mk hd3; clear hb3 hd3)
          | (go_at_call 12; refine (H12.out _ _ _ _ HD3.out (HDD.out _ HB3.out.2) HDL.out).mono ?_; rintro e W4 ⟨hb4, rfl⟩; have HB4 := Aside0.mk (And.intro (below_to HB3.out.1 hb4) (below_to HB3.out.2 hb4)); clear hb4)
          | (go_at_call 10; refine (H10.out _ HB4.out.1).mono ?_; rintro e W5 ⟨hb5, rfl⟩; have HB5 := Aside0.mk (And.intro (below_to HB4.out.1 hb5) (below_to HB4.out.2 hb5)); clear hb5)
          | (go_at_call 14; refine (H14.out _ HB5.out.1).mono ?_; rintro e W6 ⟨hb6, A6, c6, rfl, hn6⟩; have HB6 := Aside0.mk (And.intro (below_to HB5.out.1 hb6) (below_to HB5.out.2 hb6)); have HN6 := Aside0.mk hn6; clear hb6 hn6)
          | (go_at_call 15; refine (H15.out _ HB6.out.1).mono ?_; rintro e W7 ⟨hb7, A7, c7, rfl, hn7⟩; have HB7 := Aside0.mk (And.intro (below_to HB6.out.1 hb7) (below_to HB6.out.2 hb7)); have HN7 := Aside0.mk (And.intro (HN6.out.below hb7) hn7); clear hb7 hn7)
          | (go_at_call 13; refine (H13.out _ _ _ _ HN7.out.1 HN7.out.2 HPL.out).mono ?_; rintro e W8 ⟨hb8, rfl⟩; have HB8 := Aside0.mk (And.intro (below_to HB7.out.1 hb8) (below_to HB7.out.2 hb8)); clear hb8))
        have p0 : ((0 : Int) ≤ ((D.length : Nat) : Int)) = True := eq_true (by omega)
        have p1 : (((D.length : Nat) : Int) ≤ ((c5 : Nat) : Int)) = True := eq_true (by omega)
        have HCM : Aside0 ((cutD ((D.length : Nat) : Int) D).length ≤ 1099511627776) := ⟨HCL.out D.length⟩
        have HTM : Aside0 (∀ W', Below W1.heap.size W1 W' → DaR W' (.slice (some ⟨g, 0, none⟩) D.length c5) (cutD ((D.length : Nat) : Int) D)) := ⟨fun W' hb => HTK.out W' D.length (by omega) hb⟩
        go_region_held3 (fun W' => Below W8.heap.size W8 W') (first | assumption | exact Below.refl _ _ | exact (Gr.refl W8).drew.below | exact below_to (by assumption) (Gr.refl _).drew.below) (first | (go_at_call 6; refine (H6.out _ _ (below_to HB8.out.1 (by assumption))).mono ?_; rintro e W9 ⟨hb9, A9, c9, rfl, hd9⟩; have hq9 : Below W8.heap.size W8 W9 := below_to (by assumption) hb9) | (go_at_call 12; refine (H12.out _ _ _ _ hd9 (HTM.out _ (below_to HB8.out.2 hq9)) HCM.out).mono ?_; rintro e W10 ⟨hb10, rfl⟩; have hq10 : Below W8.heap.size W8 W10 := below_to hq9 hb10))
        rename_i hlast
        have HLA := Aside0.mk hlast
        clear hlast
        go_wp2_with fail
        go_ret
        exact ⟨rfl, below_to HB8.out.1 HLA.out⟩
      · have b2 : decide (((D.length : Nat) : Int) < most) = false := decide_eq_false hm1
        have hm2 : 0 ≤ most := by omega
        go_wp2_with (first
          | (go_at_call 5; refine (H5.out _).mono ?_; rintro e W2 ⟨hb2, rfl⟩; have HB2 := Aside0.mk (And.intro (below_to HB1.out hb2) hb2); clear hb2)
          | (go_at_call 6; refine (H6.out _ _ HB2.out.1).mono ?_; rintro e W3 ⟨hb3, A3, c3, rfl, hd3⟩; rw [cut_all] at hd3 ⊢; have HB3 := Aside0.mk (And.intro (below_to HB2.out.1 hb3) (below_to HB2.out.2 hb3)); have HD3 := Aside0.mk hd3; clear hb3 hd3)
          | (go_at_call 12; refine (H12.out _ _ _ _ HD3.out (HDD.out _ HB3.out.2) HDL.out).mono ?_; rintro e W4 ⟨hb4, rfl⟩; have HB4 := Aside0.mk (And.intro (below_to HB3.out.1 hb4) (below_to HB3.out.2 hb4)); clear hb4)
          | (go_at_call 10; refine (H10.out _ HB4.out.1).mono ?_; rintro e W5 ⟨hb5, rfl⟩; have HB5 := Aside0.mk (And.intro (below_to HB4.out.1 hb5) (below_to HB4.out.2 hb5)); clear hb5)
          | (go_at_call 14; refine (H14.out _ HB5.out.1).mono ?_; rintro e W6 ⟨hb6, A6, c6, rfl, hn6⟩; have HB6 := Aside0.mk (And.intro (below_to HB5.out.1 hb6) (below_to HB5.out.2 hb6)); have HN6 := Aside0.mk hn6; clear hb6 hn6)
          | (go_at_call 15; refine (H15.out _ HB6.out.1).mono ?_; rintro e W7 ⟨hb7, A7, c7, rfl, hn7⟩; have HB7 := Aside0.mk (And.intro (below_to HB6.out.1 hb7) (below_to HB6.out.2 hb7)); have HN7 := Aside0.mk (And.intro (HN6.out.below hb7) hn7); clear hb7 hn7)
          | (go_at_call 13; refine (H13.out _ _ _ _ HN7.out.1 HN7.out.2 HPL.out).mono ?_; rintro e W8 ⟨hb8, rfl⟩; have HB8 := Aside0.mk (And.intro (below_to HB7.out.1 hb8) (below_to HB7.out.2 hb8)); clear hb8))
        obtain ⟨m, rfl⟩ := Int.eq_ofNat_of_zero_le hm2
        have p0 : ((0 : Int) ≤ ((m : Nat) : Int)) = True := eq_true (by omega)
        have p1 : (((m : Nat) : Int) ≤ ((c5 : Nat) : Int)) = True := eq_true (by omega)
        have HCM : Aside0 ((cutD ((m : Nat) : Int) D).length ≤ 1099511627776) := ⟨HCL.out m⟩
        have HTM : Aside0 (∀ W', Below W1.heap.size W1 W' → DaR W' (.slice (some ⟨g, 0, none⟩) m c5) (cutD ((m : Nat) : Int) D)) := ⟨fun W' hb => HTK.out W' m (by omega) hb⟩
        go_region_held3 (fun W' => Below W8.heap.size W8 W') (first | assumption | exact Below.refl _ _ | exact (Gr.refl W8).drew.below | exact below_to (by assumption) (Gr.refl _).drew.below) (first | (go_at_call 6; refine (H6.out _ _ (below_to HB8.out.1 (by assumption))).mono ?_; rintro e W9 ⟨hb9, A9, c9, rfl, hd9⟩; have hq9 : Below W8.heap.size W8 W9 := below_to (by assumption) hb9) | (go_at_call 12; refine (H12.out _ _ _ _ hd9 (HTM.out _ (below_to HB8.out.2 hq9)) HCM.out).mono ?_; rintro e W10 ⟨hb10, rfl⟩; have hq10 : Below W8.heap.size W8 W10 := below_to hq9 hb10))
        rename_i hlast
        have HLA := Aside0.mk hlast
        clear hlast
        go_wp2_with fail
        go_ret
        exact ⟨rfl, below_to HB8.out.1 HLA.out⟩
end Go.Proofs.Ytknpkfjaffhejaa
