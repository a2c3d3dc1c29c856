/- WHAT IS PROVED: slices.SortedFunc(maps.Keys(m), cmp) at sites. -/
import Derived.Test.YtknpkfjaffhejaaGreatKs
import Derived.Test.YtknpkfjaffhejaaGreatIn
import Derived.Test.YtknpkfjaffhejaaGreatPt
namespace Go.Proofs.YtknpkfjaffhejaaGreat
open Go.RowKit Go.Shelf Go.Sort Go.Proofs.YtknpkfjaffhejaaGreatW.PrintWords Go.Proofs.YtknpkfjaffhejaaGreatW.PrintLast Go.Proofs.YtknpkfjaffhejaaGreatW.PrintMore
attribute [local go_sem] Oper.semAt_some
set_option linter.unusedVariables false
set_option linter.unusedSimpArgs false

def encS (x : SI) : List Value := [.string x.1, .int .i64 x.2]
theorem encS_len (x : SI) : (encS x).length = 2 := rfl
theorem encS_one (x : SI) : ∀ v ∈ encS x, v.oneCell' = true := fun v hv => by
  simp [encS] at hv
  rcases hv with rfl | rfl <;> rfl
def flatS (l : List SI) : List Value := l.flatMap encS
theorem flatS_len (l : List SI) : (flatS l).length = l.length * 2 := by
  induction l with
  | nil => rfl
  | cons x r ih => simp only [flatS, List.flatMap_cons, List.length_append, encS_len, List.length_cons] at *; rw [ih]; omega
theorem flatS_get (l : List SI) : ∀ j, j < l.length * 2 → (flatS l)[j]? = (encS l[j / 2]!)[j % 2]? := by
  induction l with
  | nil => intro j hj; simp at hj
  | cons x r ih =>
    intro j hj
    rw [flatS, List.flatMap_cons]
    by_cases h : j < 2
    · rw [List.getElem?_append_left (by rw [encS_len]; exact h), Nat.div_eq_of_lt h, Nat.mod_eq_of_lt h]
      rfl
    · rw [List.getElem?_append_right (by rw [encS_len]; omega), encS_len]
      have := ih (j - 2) (by simp at hj; omega)
      rw [flatS] at this
      rw [this]
      have e1 : j / 2 = (j - 2) / 2 + 1 := by omega
      have e2 : j % 2 = (j - 2) % 2 := by omega
      rw [e1, e2]
      simp
theorem info29s : (Tryz.prog.info? 37).map (fun i => (i.zero, i.size, i.bytes)) = some (some (.agg #[.string ⟨#[]⟩, .int .i64 0]), 2, 24) := by kernel_rfl

theorem keysI_calls (mb : Option Nat) (W : World) : Calls Tryz.prog 22 #[.map mb] W fun e w' => e = .returned (.func (.func 35) #[] #[.pointer (some ⟨W.heap.size, 0, none⟩)]) ∧ w' = W.alloc (.cells #[.map mb] 50) := by
  go_enter Tryz.func22, Tryz.ntmps22
  go_wp2
  go_ret
  exact ⟨rfl, rfl⟩

/-- What AppendSeq's loop keeps. -/
def AqI (U : World) (B2 : Nat) (pre : List SI) (W' : World) : Prop := (∃ v, Boxed W' B2 25 v ∧ W'.ownsRow U.heap.size 37 2 v pre.length (flatS pre) ∧ True) ∧ U.grownBy W' (some B2)
theorem AqI_own (U : World) (B2 : Nat) : OwnFrom U.heap.size (AqI U B2) :=
  OwnFrom.and ((holdsRow_own U.heap.size B2 25 37 2 (fun pre : List SI => pre.length) (fun pre => flatS pre) (fun pre _ => True)).from _) (ownFrom_grown U B2)
theorem keepsW_b {w : World} (W : World) (l : Nat) (o o' : Obj) (hl : w.heap.size ≤ l) (h : W.heap[l]? = some o) (hc : o.isCells = false) (hw : o.isWalk = false) : KeepsWalks W (W.putObj l o') := KeepsWalks.putObj o' h hw

set_option maxRecDepth 100000 in
set_option maxHeartbeats 8000000 in
theorem appendSeqI_calls {Bm b n : Nat} {z : Value} {ks : List SI} {g : SI → Value} (W : World) (hB : Bm < W.heap.size) (hbx : W.heap[Bm]? = some (.cells #[.map (some b)] 50 (0, 0))) (hm : MapAt 37 encI okI z W b n ks g) (hn : n ≤ 2199023255552) :
    Calls Tryz.prog 51 #[.slice none 0 0, .func (.func 35) #[] #[.pointer (some ⟨Bm, 0, none⟩)]] W fun e W' => ∃ (v' : Value) (ss : List SI), e = .returned v' ∧ KeysOfI n ks ss ∧ W'.ownsRow W.heap.size 37 2 v' ss.length (flatS ss) ∧ Below W.heap.size W W' := by
  have HST := Aside0.mk (fun m => keysI_stops hB hbx hm m)
  have e1 : (W.alloc (.cells #[.slice none 0 0] 25)).heap.size = W.heap.size + 1 := by simp
  have hb0 := below_mk (Below.refl W.heap.size W) (.cells #[.slice none 0 0] 25)
  have hn0 := heap_alloc_new W (.cells #[.slice none 0 0] 25)
  have HB0 := Aside0.mk (And.intro hb0 (And.intro hn0 e1))
  clear hb0 hn0 e1 hbx hm
  refine (callsIn_wide (n := 5)).1 ?_
  refine callsIn_of_wp_marks Tryz.func51 rfl trivial ?_ rfl
  simp only [Tryz.ntmps51, List.size_toArray, List.length_cons, List.length_nil, Nat.reduceAdd, Nat.reduceSub, Array.replicate_succ, Array.replicate_zero, List.push_toArray, List.append_toArray, List.nil_append, List.cons_append]
  gi_wp2_with fail
  generalize hU : W.alloc (.cells #[.slice none 0 0] 25) = U at *
  obtain ⟨hb0, hn0, e1⟩ := HB0.out
  have HU := Aside0.mk (And.intro hb0 (And.intro hn0 e1))
  have hgU := grownBy_refl U (some W.heap.size)
  refine wpIn_rangeFunc_ownH (F := Fence.wide) rfl (by omega) (gf := 35) (lb := #[.pointer (some ⟨Bm, 0, none⟩)]) rfl trivial (enters_of Tryz.func35 (by kernel_rfl) rfl)
    (HST.out _) KeepsWalks.trans keepsW_b hb0 (fun _ => rfl)
    (AqI U W.heap.size) (fun c pre W' => False)
    (AqI_own _ _) (fun c s A B row hs hg hr => hs.elim) ?h0
    (fun x a' W' => ∃ Bd, U.heap.size ≤ Bd ∧ W'.heap[Bd]? = some (.cells (encS x).toArray 37 (0, 0)) ∧ a' = { tmps := #[.slice none 0 0, .func (.func 35) #[] #[.pointer (some ⟨Bm, 0, none⟩)], .pointer (some ⟨W.heap.size, 0, none⟩), undef, .slice none 0 0, .pointer (some ⟨Bd, 0, none⟩), .func (.func 35) #[] #[.pointer (some ⟨Bm, 0, none⟩)], encI x, undef, undef, undef, undef, undef], defers := [] })
    ?hAx ?assign ?body ?done ?stop
  case h0 => exact ⟨⟨_, hn0, World.ownsRow_nil _ _ _ _, trivial⟩, hgU⟩
  case hAx =>
    rintro x a' s X Y row ⟨Bd, h1, h2, h3⟩ hg hr
    exact ⟨Bd, h1, (hg.block _ (blk_lt h2) (fun e => by
      obtain ⟨o, ho, hc⟩ := (hr _ e.symm).2
      rw [h2] at ho
      cases ho
      cases hc)).trans h2, h3⟩
  case assign =>
    rintro lp pre ⟨p, q⟩ W2 K hI hK
    have HI := Aside0.mk hI
    have HK := Aside0.mk hK
    clear hI hK
    simp only [encI]
    gi_wp2_with fail
    exact HK.out _ _ ((KeepsOthers.alloc _ _).from _) (KeepsWalks.alloc W2 _) (AqI_own _ _ pre W2 _ none HI.out (World.grownBy_alloc W2 _ none) (fun r e => by cases e)) ⟨_, HI.out.2.size, heap_alloc_new W2 _, rfl⟩
  case body =>
    rintro lp pre ⟨p, q⟩ a' W2 hl ⟨r, hr⟩ ⟨⟨vo, hbx, how, _⟩, hg⟩ ⟨Bd, hd1, hd2, rfl⟩ hlen
    obtain ⟨Ao, co, rfl⟩ := owns_form how
    have hd3 : W2.heap[Bd]? = some (.cells #[.string p, .int .i64 q] 37 (0, 0)) := hd2
    have c2 := hbx.cell
    have f2 := hbx.frozen
    obtain ⟨i0, hi0, hz0, hz1, hz2⟩ := info_parts info29s
    have t26 := Tryz.underlying25
    have hq4 : Aside0 (pre.length + 1 ≤ maxLen) := ⟨by unfold maxLen; omega⟩
    have hq5 : Aside0 ((pre.length + 1) * 24 ≤ 140737488355328) := ⟨by omega⟩
    have hsz : Aside0 (U.heap.size ≤ (W2.alloc (.cells #[.string p, .int .i64 q] 37)).heap.size) := ⟨by rw [World.size_alloc]; have := hg.size; omega⟩
    have hnews : Aside0 (∀ j u, (encS (p, q))[j]? = some u → (W2.alloc (.cells #[.string p, .int .i64 q] 37)).cell? ((⟨W2.heap.size, 0, none⟩ : Addr).add j) = some u) := ⟨fun j u hj => by
      rw [Addr.add_lit, Nat.zero_add, blk_cell (heap_alloc_new W2 _)]
      simpa [encS] using hj⟩
    have x0 := (blk_cell hd3 0).trans (show (#[Value.string p, .int .i64 q])[0]? = some (.string p) from rfl)
    have x1 := (blk_cell hd3 1).trans (show (#[Value.string p, .int .i64 q])[1]? = some (.int .i64 q) from rfl)
    have HH := Aside0.mk (And.intro hbx (And.intro how hg))
    have hUs := HU.out.2.2
    clear hd2 hd3 hlen hbx how hg hr hb0 hn0 hgU
    gi_wp2_with (gi_at_builtin; refine wpListIn_append_own _ rfl _ _ 25 rfl U.heap.size 37 i0 (.agg #[.string ⟨#[]⟩, .int .i64 0]) 2 24 t26 hi0 hz0 hz1 hz2 rfl (by omega) _ _ _ rfl (HH.out.2.1.alloc _) ⟨W2.heap.size, 0, none⟩ 1 1 (encS (p, q)) rfl rfl hnews.out (encS_one _) hq4.out hq5.out hsz.out ?_; intro vv w1 hown hgrow _; obtain ⟨g', cap', rfl⟩ := ownsRow_succ hown; obtain ⟨hv1, hv2, hr2, hg2, hk2, hp2⟩ := dd_step (n0 := W.heap.size + 1) (by omega) HH.out.1 (by decide) (by decide) (by decide) HH.out.2.1 HH.out.2.2 hown hgrow; have hc1 := hv1.cell; have hf1 := hv1.frozen; have HZ := Aside0.mk (And.intro hv2 (And.intro hr2 (And.intro hg2 (And.intro hk2 hp2)))); clear hv1 hv2 hr2 hg2 hk2 hp2 hown hgrow)
    obtain ⟨z1, z2, z3, z4, z5⟩ := HZ.out
    exact ⟨z4.from _, z4.walks, ⟨⟨_, z1, by simpa [flatS] using z2, trivial⟩, z3⟩⟩
  case done =>
    rintro D xs W3 hD hxs ⟨⟨vo, hbx, how, _⟩, hg⟩ hK
    obtain ⟨Ao, co, rfl⟩ := owns_form how
    have c5 := hbx.cell
    have hUs := HU.out.2.2
    have HF : Aside0 ((W3.putObj D (.deferred none)).ownsRow W.heap.size 37 2 (.slice Ao xs.length co) xs.length (flatS xs) ∧ Below W.heap.size W (W3.putObj D (.deferred none))) :=
      ⟨owns_mono (ownsRow_putObj how (.deferred none) hK rfl) (by omega), (HU.out.1.trans (grownBy_below hg (by omega) (fun k e => by injection e with e; omega))).trans (belowK_b (w := W) (Nat.le_refl _) W3 D _ _ (by omega) hK rfl rfl)⟩
    have HX := Aside0.mk hxs
    clear hbx how hg hxs hb0 hn0 hgU
    gi_wp2_with fail
    refine ⟨by simp, .inl ⟨_, _, rfl, run_takeDeferred hK, ?_⟩⟩
    refine ⟨.slice Ao xs.length co, ?_, ⟨_, _, rfl, HX.out, HF.out.1, HF.out.2⟩⟩
    simp [results, Tryz.f51, go_sem]
  case stop =>
    rintro D c pre W3 hD hpre hf hK
    exact hf.elim

set_option maxHeartbeats 2000000 in
theorem collectI_calls {Bm b n : Nat} {z : Value} {ks : List SI} {g : SI → Value} (W : World) (hB : Bm < W.heap.size) (hbx : W.heap[Bm]? = some (.cells #[.map (some b)] 50 (0, 0))) (hm : MapAt 37 encI okI z W b n ks g) (hn : n ≤ 2199023255552) :
    Calls Tryz.prog 33 #[.func (.func 35) #[] #[.pointer (some ⟨Bm, 0, none⟩)]] W fun e W' => ∃ (v' : Value) (ss : List SI), e = .returned v' ∧ KeysOfI n ks ss ∧ W'.ownsRow W.heap.size 37 2 v' ss.length (flatS ss) ∧ Below W.heap.size W W' := by
  have H := Aside0.mk (appendSeqI_calls W hB hbx hm hn)
  clear hbx hm
  go_enter Tryz.func33, Tryz.ntmps33
  go_wp2_with (go_at_call 51; refine H.out.mono ?_; rintro e W1 ⟨v1, ss, rfl, hk, how, hb⟩; obtain ⟨A1, c1, rfl⟩ := owns_form how; have HF := Aside0.mk (And.intro hk (And.intro how hb)); clear hk how hb)
  go_ret
  exact ⟨_, ss, rfl, HF.out.1, HF.out.2.1, HF.out.2.2⟩

theorem cmpLaysI (blk off size : Nat) (w : World) : CmpLays Tryz.prog 23 #[] encS 2 cmpSite blk off size w := fun m os dk hs x y => by
  refine (ids_calls x.1 x.2 y.1 y.2 _).mono ?_
  rintro e w' ⟨rfl, hg⟩
  exact ⟨rfl, hg⟩

/-- The sites of a list, sorted. -/
def sortI (l : List SI) : List SI := l.mergeSort fun x y => !(ltOf cmpSite) y x
theorem sortI_perm (l : List SI) : (sortI l).Perm l := List.mergeSort_perm _ _
theorem sortI_strict (l : List SI) (hl : l.Nodup) : (sortI l).Pairwise (fun x y => ltOf cmpSite x y = true) := by
  have hp : (sortI l).Pairwise (fun x y => (!(ltOf cmpSite) y x) = true) := List.pairwise_mergeSort (le := fun x y => !(ltOf cmpSite) y x) (fun a b c h1 h2 => by
    simp only [Bool.not_eq_true'] at *
    exact cmpSite3.swo.ntrans c b a h2 h1) (fun a b => by
    cases e : ltOf cmpSite b a
    · simp
    · cases f : ltOf cmpSite a b
      · simp
      · have := cmpSite3.sto.trans _ _ _ e f
        rw [cmpSite3.sto.irrefl] at this
        cases this) l
  have hn : (sortI l).Nodup := (sortI_perm l).nodup_iff.2 hl
  refine (List.pairwise_and_iff.2 ⟨hp, hn⟩).imp ?_
  rintro a b ⟨h1, h2⟩
  simp only [Bool.not_eq_true'] at h1
  cases e : ltOf cmpSite a b
  · exact absurd (cmpSite3.sto.total _ _ e h1) h2
  · rfl

/-- A slice of sites. -/
def SiR (W : World) (v : Value) (l : List SI) : Prop := ∃ A c, v = .slice A l.length c ∧ (l ≠ [] → ∃ b off, A = some ⟨b, off, none⟩ ∧ ∀ j u, (flatS l)[j]? = some u → W.cell? ⟨b, off + j, none⟩ = some u)
theorem SiR.below {W W' : World} {v : Value} {l : List SI} (h : SiR W v l) (hb : Below W.heap.size W W') : SiR W' v l := by
  obtain ⟨A, c, rfl, hA⟩ := h
  refine ⟨A, c, rfl, fun hl => ?_⟩
  obtain ⟨b, off, rfl, hc⟩ := hA hl
  exact ⟨b, off, rfl, fun j u hj => cell_below hb (hc j u hj)⟩
theorem SiR.form {W : World} {v : Value} {l : List SI} (h : SiR W v l) : ∃ A c, v = .slice A l.length c := by
  obtain ⟨A, c, rfl, _⟩ := h
  exact ⟨A, c, rfl⟩
theorem SiR.cells {W : World} {A : Option Addr} {n c : Nat} {l : List SI} (h : SiR W (.slice A n c) l) (i : Nat) (hi : i < l.length) : ∃ b off, A = some ⟨b, off, none⟩ ∧ W.cell? ⟨b, off + i * 2, none⟩ = some (.string l[i]!.1) ∧ W.cell? ⟨b, off + i * 2 + 1, none⟩ = some (.int .i64 l[i]!.2) := by
  obtain ⟨A', c', e, hA⟩ := h
  injection e with e1 e2 e3
  subst e1
  have hl : l ≠ [] := fun e => by subst e; simp at hi
  obtain ⟨b, off, rfl, hc⟩ := hA hl
  have hg : ∀ j, j < 2 → ∀ u, (encS l[i]!)[j]? = some u → W.cell? ⟨b, off + i * 2 + j, none⟩ = some u := fun j hj u hu => by
    have e := flatS_get l (i * 2 + j) (by omega)
    rw [show (i * 2 + j) / 2 = i by omega, show (i * 2 + j) % 2 = j by omega, hu] at e
    have := hc _ _ e
    rwa [← Nat.add_assoc] at this
  exact ⟨b, off, rfl, hg 0 (by omega) _ rfl, hg 1 (by omega) _ rfl⟩

theorem holds_of_owns {W : World} {base g c : Nat} {l : List SI} (h : W.ownsRow base 37 2 (.slice (some ⟨g, 0, none⟩) l.length c) l.length (flatS l)) : HoldsK encS 2 W g 0 l.toArray := by
  obtain ⟨_, ⟨h1, _⟩ | ⟨g', cap, cur, h1, hg, hh, hn, hm, hs, hx⟩⟩ := h
  · cases h1
  · simp only [Value.slice.injEq, Option.some.injEq, Addr.mk.injEq, and_true, true_and] at h1
    obtain ⟨rfl, rfl⟩ := h1
    intro j hj
    rw [size_flatK] at hj
    have hj' : j < l.length * 2 := by simpa using hj
    refine ⟨?_, blk_frozen hh _⟩
    rw [blk_cell hh, get_flatK _ _ _ _ hj, Nat.zero_add, ← Array.getElem?_toList]
    have h1 : (cur.toList.take (l.length * 2))[j]? = (flatS l)[j]? := by rw [hx]
    rw [List.getElem?_take, if_pos hj', flatS_get l j hj'] at h1
    rw [h1]
    have e : l.toArray[j / 2]! = l[j / 2]! := by
      rw [getElem!_pos l (j / 2) (by omega), getElem!_pos l.toArray (j / 2) (by simp; omega)]
      simp
    rw [e]
    show _ = some (encS l[j / 2]!)[j % 2]!
    rw [getElem!_pos (encS l[j / 2]!) (j % 2) (by rw [encS_len]; omega)]
    exact List.getElem?_eq_getElem _
theorem siR_of_holds {W : World} {blk cap : Nat} {d : Array SI} (h : HoldsK encS 2 W blk 0 d) : SiR W (.slice (some ⟨blk, 0, none⟩) d.size cap) d.toList := by
  refine ⟨some ⟨blk, 0, none⟩, cap, by simp, fun _ => ⟨blk, 0, rfl, fun j u hj => ?_⟩⟩
  have hlt : j < d.size * 2 := by
    have := (List.getElem?_eq_some_iff.1 hj).1
    rw [flatS_len] at this
    simpa using this
  rw [flatS_get _ _ (by simpa using hlt)] at hj
  have e : d.toList[j / 2]! = d[j / 2]! := by
    rw [getElem!_pos d (j / 2) (by omega), getElem!_pos d.toList (j / 2) (by simp; omega)]
    simp
  rw [e] at hj
  have := HoldsK.cells h encS_len (i := j / 2) (by omega) (j % 2) u hj
  rw [Addr.add_lit] at this
  rw [← this]
  congr 2
  omega

theorem sortI_calls (W0 W : World) (g c : Nat) (l : List SI) (how : W.ownsRow W0.heap.size 37 2 (.slice (some ⟨g, 0, none⟩) l.length c) l.length (flatS l)) (hg : W0.heap.size ≤ g) (hb : Below W0.heap.size W0 W) (hl : l.length < 4611686018427387904) :
    Calls Tryz.prog 34 #[.slice (some ⟨g, 0, none⟩) l.length c, .func (.func 23) #[] #[]] W fun e W' => e = .returned (.tuple #[]) ∧ SiR W' (.slice (some ⟨g, 0, none⟩) (sortI l).length c) (sortI l) ∧ Below W0.heap.size W0 W' := by
  have hH := holds_of_owns how
  have hlt : g < W.heap.size := (how.lt g rfl).2
  have eg : ∀ args w, (callFunc 23 args).run Tryz.prog w = .ok (.enter 23 args) w := enters_of Tryz.func23 (by kernel_rfl) rfl
  have hcon := AnyQ.slices_SortFunc_total Tryz.sortSite 2 Tryz.isAgg37 Tryz.sizeOf37 encS encS_len encS_one cmpSite cmpSite3.swo 23 #[] g 0 c l.toArray W eg (cmpLaysI g 0 l.toArray.size W) hH hlt (by simpa using hl) cmpSite3.total
  change Calls Tryz.prog 34 _ _ _ at hcon
  rw [List.size_toArray] at hcon
  refine hcon.mono ?_
  rintro e w' ⟨rfl, n, os, rfl⟩
  have hs : (sortI l).toArray.size = l.toArray.size := by simp [sortI]
  change _ ∧ SiR (sortWorldK encS 2 W g 0 n (sortI l).toArray os) _ _ ∧ Below _ _ (sortWorldK encS 2 W g 0 n (sortI l).toArray os)
  refine ⟨rfl, by simpa using siR_of_holds (cap := c) (holdsK_sortWorldK_c encS 2 W g 0 l.toArray (sortI l).toArray n os hH hlt hs), ?_⟩
  refine hb.trans ⟨rfl, rfl, rfl, size_sortWorldK_c encS 2 W g 0 n (sortI l).toArray os, fun k hk => ?_⟩
  have hkW : k < W.heap.size := Nat.lt_of_lt_of_le hk hb.size
  unfold sortWorldK
  rw [heap_grow_old _ _ (by rw [size_putRowK]; exact hkW)]
  have hne : g ≠ k := by omega
  simp [putRowK, putRow, mapBlock, Array.getElem?_modify, hne, Sort.ahead]
theorem sortI_none (p : Option Addr) (cap : Nat) (W : World) (fv : Value) : Calls Tryz.prog 34 #[.slice p 0 cap, fv] W fun e W' => e = .returned (.tuple #[]) ∧ W' = W :=
  AnyF.slices_SortFunc_none Tryz.sortSite p cap fv W

set_option maxHeartbeats 2000000 in
theorem sortedI_calls {Bm b n : Nat} {z : Value} {ks : List SI} {g : SI → Value} (W : World) (hB : Bm < W.heap.size) (hbx : W.heap[Bm]? = some (.cells #[.map (some b)] 50 (0, 0))) (hm : MapAt 37 encI okI z W b n ks g) (hn : n ≤ 2199023255552) :
    Calls Tryz.prog 21 #[.func (.func 35) #[] #[.pointer (some ⟨Bm, 0, none⟩)], .func (.func 23) #[] #[]] W fun e W' => ∃ (v' : Value) (l : List SI), e = .returned v' ∧ SiR W' v' l ∧ l.Pairwise (fun x y => ltOf cmpSite x y = true) ∧ (∀ x ∈ l, okI x) ∧ (∀ x, okI x → (x ∈ l ↔ x ∈ ks)) ∧ Below W.heap.size W W' := by
  have H := Aside0.mk (collectI_calls W hB hbx hm hn)
  clear hbx hm
  go_enter Tryz.func21, Tryz.ntmps21
  go_wp2_with (go_at_call 33; refine H.out.mono ?_; rintro e W1 ⟨v1, ss, rfl, hk, how, hb⟩)
  rcases owns_kind how with ⟨rfl, h1, h2⟩ | ⟨g', c, rfl, hg, hlc, _⟩
  · obtain rfl : ss = [] := List.length_eq_zero_iff.1 h1
    have HF := Aside0.mk (And.intro hk hb)
    have hs := fun W => sortI_none none 0 W (.func (.func 23) #[] #[])
    clear hk how hb h1 h2
    go_wp2_with (go_at_call 34; refine (hs _).mono ?_; rintro e W2 ⟨rfl, rfl⟩)
    go_ret
    exact ⟨_, [], rfl, ⟨none, 0, rfl, fun h => absurd rfl h⟩, .nil, (fun x hx => by cases hx), HF.out.1.2.2.2, HF.out.2⟩
  · have hlen : ss.length < 4611686018427387904 := by have := hk.1; omega
    have HS := Aside0.mk (sortI_calls W W1 g' c ss how hg hb hlen)
    have HF := Aside0.mk hk
    have hll : (sortI ss).length = ss.length := by simp [sortI]
    have HLL := Aside0.mk hll
    clear hk how hb hlen hlc hll
    go_wp2_with (go_at_call 34; refine HS.out.mono ?_; rintro e W2 ⟨rfl, hr, hb2⟩; have HR := Aside0.mk (And.intro hr hb2); clear hr hb2)
    go_ret
    refine ⟨_, sortI ss, rfl, ?_, sortI_strict ss HF.out.2.1, fun x hx => HF.out.2.2.1 x ((sortI_perm ss).mem_iff.1 hx), fun x hx => (sortI_perm ss).mem_iff.trans (HF.out.2.2.2 x hx), HR.out.2⟩
    have := HR.out.1
    rw [HLL.out] at this
    exact this
end Go.Proofs.YtknpkfjaffhejaaGreat
