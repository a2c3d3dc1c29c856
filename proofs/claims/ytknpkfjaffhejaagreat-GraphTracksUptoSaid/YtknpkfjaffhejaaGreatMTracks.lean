/- WHAT IS PROVED: GraphTracks answers true at edges. | WHAT IS PROVED: GraphTracks answers true for every edges and procedure, where what it reads is of bulk at most 1048576. -/
import Derived.Test.YtknpkfjaffhejaaGreatRe
import Derived.Test.YtknpkfjaffhejaaGreatRs
import Derived.Test.YtknpkfjaffhejaaGreatBg
import Derived.Test.YtknpkfjaffhejaaGreatOpn
import Derived.ChangeMaps5
namespace Go.Proofs.YtknpkfjaffhejaaGreat
open Go.RowKit Go.Sort Go.Lib Go.Proofs.YtknpkfjaffhejaaGreatW.PrintWords Go.Proofs.YtknpkfjaffhejaaGreatW.PrintLast Go.Proofs.YtknpkfjaffhejaaGreatW.PrintMore
set_option linter.unusedVariables false
set_option linter.unusedSimpArgs false

set_option maxRecDepth 100000 in
set_option maxHeartbeats 8000000 in
theorem graphTracks_calls (W : World) (v : Value) (l : List Edge) (proc : ByteArray) {m0 : Nat} (h : EdR m0 W v l) (hn : l.length ≤ 1048576) (hs : ∀ e ∈ l, okE e) :
    Calls Tryz.prog 3 #[v, .string proc] W fun e W' => e = .returned (.bool true) ∧ Below W.heap.size W W' := by
  have h' := h
  obtain ⟨A, c, rfl, _⟩ := h'
  obtain ⟨T, hT⟩ : ∃ T, T = refT (vulE l) (vulE l).length := ⟨_, rfl⟩
  have HTL : Aside0 (T.length ≤ 1099511627776) := ⟨by
    have := refT_len (vulE l) (vulE l).length
    have := vulE_len l
    rw [hT]
    omega⟩
  have H5 : Aside0 (∀ W', Calls Tryz.prog 5 #[] W' fun e W'' => Below W'.heap.size W' W'' ∧ e = .returned (.bool true)) := ⟨fun W' => (begun_calls W').mono fun e W'' ⟨he, hb⟩ => ⟨hb, he⟩⟩
  have H7 : Aside0 (∀ W', Below W.heap.size W W' → Calls Tryz.prog 7 #[.slice A l.length c] W' fun e W'' => Below W'.heap.size W' W'' ∧ ∃ A' c', e = .returned (.slice A' T.length c') ∧ SiR W'' (.slice A' T.length c') T) := ⟨fun W' hb => by
    refine (tracked_calls W' _ l (h.below hb) hn hs).mono ?_
    rintro e W'' ⟨v', T', rfl, hr, hpw, hm, hb2⟩
    obtain ⟨A', c', rfl⟩ := hr.form
    obtain rfl : T' = T := (refT_sites _ hpw hm).trans hT.symm
    exact ⟨hb2, A', c', rfl, hr⟩⟩
  have H8 : Aside0 (∀ W', Below W.heap.size W W' → Calls Tryz.prog 8 #[.slice A l.length c] W' fun e W'' => Below W'.heap.size W' W'' ∧ ∃ A' c', e = .returned (.slice A' T.length c') ∧ SiR W'' (.slice A' T.length c') T) := ⟨fun W' hb => by
    refine (refT_calls W' _ l (h.below hb) hn).mono ?_
    rw [refV_eq, ← hT]
    rintro e W'' ⟨hb2, v', rfl, how⟩
    obtain ⟨A', c', rfl⟩ := owns_form how
    exact ⟨hb2, A', c', rfl, owns_si how⟩⟩
  have H6 : Aside0 (∀ W' v v', SiR W' v T → SiR W' v' T → Calls Tryz.prog 6 #[v, v'] W' fun e W'' => Below W'.heap.size W' W'' ∧ e = .returned (.bool true)) := ⟨fun W' v v' h1 h2 => (sameSites_calls W' v v' T h1 h2 HTL.out).mono fun e W'' ⟨he, hg⟩ => ⟨hg.below, he⟩⟩
  have H10 : Aside0 (∀ W', Below W.heap.size W W' → Calls Tryz.prog 10 #[.slice A l.length c, .string proc] W' fun e W'' => Below W'.heap.size W' W'' ∧ ∃ (names : List ByteArray) (A' : Option Addr) (c' : Nat), e = .returned (.slice A' names.length c') ∧ StR W'' (.slice A' names.length c') names ∧ names.Pairwise (fun x y => blt x y = true) ∧ (∀ s, s ∈ names ↔ Rch l proc s)) := ⟨fun W' hb => by
    refine (reach_calls W' _ l proc (h.below hb) hn hs).mono ?_
    rintro e W'' ⟨v', names, rfl, how, hpw, hm, hb2⟩
    obtain ⟨A', c', rfl⟩ := owns_form how
    exact ⟨hb2, names, A', c', rfl, StR.of_owns how, hpw, hm⟩⟩
  have H11 : Aside0 (∀ W' (names : List ByteArray), Below W.heap.size W W' → names.Pairwise (fun x y => blt x y = true) → (∀ s, s ∈ names ↔ Rch l proc s) → Calls Tryz.prog 11 #[.slice A l.length c, .string proc] W' fun e W'' => Below W'.heap.size W' W'' ∧ ∃ (A' : Option Addr) (c' : Nat), e = .returned (.slice A' names.length c') ∧ StR W'' (.slice A' names.length c') names) := ⟨fun W' names hb h1 h2 => by
    refine (refR_calls W' _ l proc (h.below hb) hn).mono ?_
    rintro e W'' ⟨v', names', rfl, how, hpw, hm, hb2⟩
    obtain ⟨A', c', rfl⟩ := owns_form how
    obtain rfl : names' = names := sorted_uniq bltSto _ _ hpw h1 fun s => by rw [hm, h2]
    exact ⟨hb2, A', c', rfl, StR.of_owns how⟩⟩
  have H9 : Aside0 (∀ W' v v' (names : List ByteArray), StR W' v names → StR W' v' names → names.Pairwise (fun x y => blt x y = true) → (∀ s, s ∈ names ↔ Rch l proc s) → Calls Tryz.prog 9 #[v, v'] W' fun e W'' => Below W'.heap.size W' W'' ∧ e = .returned (.bool true)) := ⟨fun W' v v' names h1 h2 h3 h4 => (sameNames_calls W' v v' names h1 h2 (by
    have := ks_le (sorted_nodup h3) fun s hs => (h4 s).1 hs
    omega)).mono fun e W'' ⟨he, hg⟩ => ⟨hg.below, he⟩⟩
  clear h hs hn hT
  go_enter Tryz.func3, Tryz.ntmps3
  go_wp2_with (first
    | (go_at_call 5; refine (H5.out _).mono ?_; rintro e W1 ⟨hb1, rfl⟩; have HB1 := Aside0.mk hb1; clear hb1)
    | (go_at_call 7; refine (H7.out _ HB1.out).mono ?_; rintro e W2 ⟨hb2, A2, c2, rfl, hd⟩; have HB2 := Aside0.mk (And.intro (below_to HB1.out hb2) hd); clear hb2 hd)
    | (go_at_call 8; refine (H8.out _ HB2.out.1).mono ?_; rintro e W3 ⟨hb3, A3, c3, rfl, hd⟩; have HB3 := Aside0.mk (And.intro (below_to HB2.out.1 hb3) (And.intro (HB2.out.2.below hb3) hd)); clear hb3 hd)
    | (go_at_call 6; refine (H6.out _ _ _ HB3.out.2.1 HB3.out.2.2).mono ?_; rintro e W4 ⟨hb4, rfl⟩; have HB4 := Aside0.mk (below_to HB3.out.1 hb4); clear hb4)
    | (go_at_call 10; refine (H10.out _ HB4.out).mono ?_; rintro e W5 ⟨hb5, names, A5, c5, rfl, hd, hpw, hm⟩; have HB5 := Aside0.mk (And.intro (below_to HB4.out hb5) hd); have HNM := Aside0.mk (And.intro hpw hm); clear hb5 hd hpw hm)
    | (go_at_call 11; refine (H11.out _ names HB5.out.1 HNM.out.1 HNM.out.2).mono ?_; rintro e W6 ⟨hb6, A6, c6, rfl, hd⟩; have HB6 := Aside0.mk (And.intro (below_to HB5.out.1 hb6) (And.intro (HB5.out.2.below hb6) hd)); clear hb6 hd)
    | (go_at_call 9; refine (H9.out _ _ _ names HB6.out.2.1 HB6.out.2.2 HNM.out.1 HNM.out.2).mono ?_; rintro e W7 ⟨hb7, rfl⟩; have HB7 := Aside0.mk (below_to HB6.out.1 hb7); clear hb7))
  go_ret
  exact ⟨rfl, HB7.out⟩
end Go.Proofs.YtknpkfjaffhejaaGreat

namespace Go.Proofs.YtknpkfjaffhejaaGreat.graphTracks
open Go.ChangeShapes Go.WideShapes Go.ChangeAt Go.RowKit Go.Proofs.YtknpkfjaffhejaaGreatW.PrintWords
open Go.ChangeMaps (open_string shut_string)
open Opn
set_option linter.unusedVariables false

set_option maxRecDepth 100000 in
theorem lifted (os : Os) (started : os.Started) (H : Type) (enc : TypeId × Value → H) (F : Stop.Interp) :
    ReturnsInHanded {} Tryz.checked os 3 .any ((Rows.OpenSpec.upto Rows.graphTracksSpec).pre6 enc Tryz.prog Tryz.f3 Rows.graphTracksUptoRow.domain false) (((Rows.OpenSpec.upto Rows.graphTracksSpec).at F).post enc Tryz.prog Tryz.f3 false true false false) := by
  refine returnsInHanded_of_cond (C := Tryz.checked) (s := Rows.OpenSpec.upto Rows.graphTracksSpec) (k := Rows.uptoSmall) rfl own started (by kernel_rfl) Tryz.func3
    (OpenSpec.witness (enc := enc) (C := Tryz.checked) (s := Rows.OpenSpec.upto Rows.graphTracksSpec) (k := Rows.uptoSmall) rfl false ⟨#[], #[.slice none 0 0, .string ⟨#[]⟩], []⟩ 8 (by kernel_rfl) (by kernel_rfl) (by kernel_rfl)
      (x := ([.nil, .lit (.string [])], [], [])) (by kernel_rfl) rfl (by kernel_rfl)) ?_
  intro W base args ds gs before hval hW _ hk _
  have hW' := hW
  obtain ⟨p, q, hA0, hV, rfl, hfz, hnd⟩ := hW
  have hA : DataW.TrodAll enc Tryz.prog W 0 (fun _ => true) true Tryz.f3.params.toList args.toList ds p := hA0
  rw [Tryz.params3] at hA hval
  obtain ⟨v0, vs0, d0, ds0, p0, q0, hargs, rfl, rfl, h0, r0⟩ := trodAll_cons hA
  obtain ⟨v1, vs1, d1, ds1, p1, q1, rfl, rfl, rfl, h1, r1⟩ := trodAll_cons r0
  obtain ⟨rfl, rfl, rfl⟩ := trodAll_nil r1
  obtain rfl : args = #[v0, v1] := by cases args; simp_all
  obtain ⟨rfl, rfl⟩ := trodVars_none hV
  obtain ⟨a0, len0, cap0, rfl⟩ := okWide_slice Tryz.underlying22 (hval 0 22 v0 rfl rfl)
  have lt0 : ∀ x ∈ p0, x.block < W.heap.size := by obtain ⟨m, hm⟩ := h0; exact DataW.trod_lt m _ _ _ hm
  obtain ⟨l, rfl, hE, hn, hz⟩ := edges_read h0
  obtain ⟨a1, rfl, rfl, rfl, w1⟩ := open_string Tryz.underlying9 (hval 1 9 v1 rfl rfl) h1
  have hb := bulk_bound hk
  have hd0 : Rows.uptoBulk d0 ≤ 1048576 := by
    have : Rows.uptoBulk d0 ≤ _ := bulk_part (l := ([d0] ++ [DataW.lit (.string a1.data.toList)] : List (DataW H))) (by simp)
    simp only [Rows.uptoBulkAll, List.cons_append, List.nil_append, List.append_nil] at this hb
    omega
  have hw : Calls Tryz.prog 3 #[.slice a0 l.length cap0, .string a1] W fun e w' => e = .returned (.bool true) ∧ Below W.heap.size W w' := graphTracks_calls W _ l a1 hE (by omega) hz
  clear hA0
  refine hw.mono fun e W' ⟨he, bel⟩ => ?_
  subst he
  exact ⟨_, rfl, _, _, _, [], _, [], hW', trodAll_mk1 (shut_bool Tryz.underlying4 _), (trodAll_cons_mk (Below.trod laidOut (by kernel_rfl) (of_decide_eq_true (by kernel_rfl)) h0 bel lt0) (trodAll_cons_mk (shut_string Tryz.underlying9 w1) trodAll_mk0)), rfl, bel.frame _, fun h => by cases h⟩

theorem over : Rows.graphTracksUptoRow.holds Tryz.pinned (Rows.OpenSpec.upto Rows.graphTracksSpec) :=
  OpenClaim.holds_of_cond 3 Tryz.f3 rfl rfl rfl rfl rfl rfl rfl ⟨rfl, rfl, rfl, rfl, rfl⟩ rfl rfl rfl rfl rfl (by kernel_rfl) Tryz.func3 (by kernel_rfl)
    (of_decide_eq_true (by kernel_rfl)) (by unfold Func.isWrapper; first | (rw [if_pos (by decide +kernel)]; kernel_rfl) | (rw [if_neg (by decide +kernel)]; exact ⟨rfl, rfl⟩))
    (fun os started H enc _ F => lifted os started H enc F)
end Go.Proofs.YtknpkfjaffhejaaGreat.graphTracks
namespace Go.Proofs.YtknpkfjaffhejaaGreat
theorem graphTracksUpto_holds : Rows.GraphTracksUptoSaid := graphTracks.over
end Go.Proofs.YtknpkfjaffhejaaGreat
