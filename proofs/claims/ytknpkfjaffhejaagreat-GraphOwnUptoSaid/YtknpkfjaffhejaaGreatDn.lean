/- WHAT IS PROVED: Dangers lays the vulnerable edges, and a map from a procedure to those that begin there. -/
import Derived.Test.YtknpkfjaffhejaaGreatMp
import Derived.Carry
import Derived.Deep.RegionHeldLaw
import Derived.Deep.RegionLaw
namespace Go.Proofs.YtknpkfjaffhejaaGreat
open Go.RowKit Go.Proofs.YtknpkfjaffhejaaGreatW.PrintWords Go.Proofs.YtknpkfjaffhejaaGreatW.PrintLast Go.Proofs.YtknpkfjaffhejaaGreatW.PrintMore
set_option linter.unusedVariables false
set_option linter.unusedSimpArgs false

/-- The edges that begin at a procedure. -/
def grp (s : ByteArray) (V : List Edge) : List Edge := V.filter fun e => decide (e.p = s)

theorem wpList_mapSet {α : Type} {kt : TypeId} {enc : α → Value} {ok : α → Prop} {z : Value} {b n : Nat} {ks : List α} {g : α → Value} (w : World) {ops : Array Oper} {rest : List Oper} {o : Oper} {a : Act} {Q : Exit → Act → World → Prop}
    (hg : o.guard = none) (m x v : Operand) (t : TypeId) (hop : o.op = Op.mapUpdate t m x v) (h : MapAt kt enc ok z w b n ks g) (K : KeyK kt enc ok) {e : TypeId} (ht : Tryz.prog.underlying t = some (.map kt e)) (hn : n < maxLen) {y : α} (hy : ok y) (val : Value)
    (hm : a.eval m = .map (some b)) (hx : a.eval x = enc y) (hv : a.eval v = val)
    (hK : ∀ w', MapAt kt enc ok z w' b (n + 1) (ks ++ [y]) (upd g y val) → w.grownBy w' (some b) → wpList Tryz.prog ops Q rest (a.put o.dst undef) w') :
    wpList Tryz.prog ops Q (o :: rest) a w := by
  refine wpList_plain hg fun K' hK' => ?_
  obtain ⟨w', hrun, r1, r2⟩ := h.update K ht hn hy val
  unfold Oper.wp
  simp [execOp, hop, hm, hx, hv, hrun, Result.andThen]
  exact hK' _ _ (hK w' r1 r2)

/-- append as one step of a region that draws. -/
theorem step_append_at {P : Program} {w : World} {ops : Array Oper} {o : Oper} {a : Act} {K : Act → World → Prop} {Q : Exit → Act → World → Prop} {E : Prop} (hgd : o.guard = none) (s x : Operand) (t : TypeId)
    (ho : o.op = .call { callee := .builtin .append, args := #[s, x], argTypes := #[t, t] })
    (base : Nat) (e : TypeId) (i : TypeInfo) (z : Value) (size bytes : Nat) (ht : P.underlying t = some (.slice e)) (hi : P.info? e = some i) (hz : i.zero = some z)
    (hsize : i.size = size) (hby : i.bytes = bytes) (hzs : z.cells.size = size) (hsz : 0 < size)
    (v : Value) (n : Nat) (xs : List Value) (hs : a.eval s = v) (hown : w.ownsRow base e size v n xs)
    (ad : Addr) (m c : Nat) (news : List Value) (hx : a.eval x = .slice (some ad) m c) (hl : news.length = m * size) (hnews : ∀ j u, news[j]? = some u → w.cell? (ad.add j) = some u) (h1 : ∀ u ∈ news, u.oneCell' = true)
    (h63 : n + m ≤ maxLen) (hbytes : (n + m) * bytes ≤ 140737488355328) (hbase : base ≤ w.heap.size)
    (h : ∀ v' w', w'.ownsRow base e size v' (n + m) (xs ++ news) → w.grownBy w' v.ownBlock → (v' = .slice none 0 0 ↔ v = .slice none 0 0 ∧ m = 0) → (v'.ownBlock = v.ownBlock ∨ v'.ownBlock = some w.heap.size) → K (a.put o.dst v') w') :
    if Region.wanted o (yielded ops a.tmps) = true then Oper.wp P o a w K Q else E := by
  have hw : Region.wanted o (yielded ops a.tmps) = true := by simp [Region.wanted, hgd]
  rw [if_pos hw]
  obtain ⟨v', w', hr, h2, h3, h4, h5⟩ := run_append_own_at (P := P) w base t o.type e i z size bytes ht hi hz hsize hby hzs hsz v n xs hown ad m c news hl hnews h1 h63 hbytes hbase
  unfold Oper.wp execOp
  simp only [ho, resolve, invoke, builtin, Sem.run_bind, Sem.run_pure, Result.andThen_ok, List.map_toArray, List.map_cons, List.map_nil, hs, hx, hr]
  exact h v' w' h2 h3 h4 h5

theorem zv22 (w : World) : (zeroValue 22).run Tryz.prog w = .ok (.slice none 0 0) w := Tryz.zeroValue22 w

/-- What the map holds: at each procedure the edges that begin there, in a row of their own. -/
def GrAt (base : Nat) (W : World) (bm : Nat) (l : List Edge) : Prop :=
  ∃ n ks g, n ≤ l.length ∧ bm < base ∧ MapAt 9 Value.string okS (.slice none 0 0) W bm n ks g ∧ (∀ s, okS s → W.ownsRow base 39 6 (g s) (grp s l).length (flatE (grp s l))) ∧ ∀ s t k, okS s → okS t → s ≠ t → (g s).ownBlock = some k → (g t).ownBlock ≠ some k

theorem grown_step {W1 a b : World} {bm : Nat} {row : Option Nat} (h : W1.grownBy a (some bm)) (k : a.grownBy b row) (hr : ∀ r, row = some r → W1.heap.size ≤ r ∨ r = bm) : W1.grownBy b (some bm) :=
  ⟨k.os.trans h.os, k.tape.trans h.tape, k.output.trans h.output, Nat.le_trans h.size k.size, fun i hi hne => (k.block i (Nat.lt_of_lt_of_le hi h.size) (fun e => by
    rcases hr i e.symm with h1 | h1
    · omega
    · exact hne (by rw [h1]))).trans (h.block i hi hne)⟩

theorem GrAt.made (W : World) {base : Nat} (hb : W.heap.size < base) : GrAt base (W.alloc (.map #[] 0)) W.heap.size [] :=
  ⟨0, [], _, Nat.le_refl _, hb, MapAt.made W, fun s _ => World.ownsRow_nil _ _ _ _, fun s t k _ _ _ h => by cases h⟩

theorem GrAt.kept {base : Nat} {W W' : World} {bm : Nat} {l : List Edge} (h : GrAt base W bm l) (hg : W.grownBy W' none) : GrAt base W' bm l := by
  obtain ⟨n, ks, g, h1, h2, h3, h4, h5⟩ := h
  exact ⟨n, ks, g, h1, h2, h3.kept hg (by simp), fun s hs => (h4 s hs).kept hg (by cases (g s).ownBlock <;> simp), h5⟩
theorem GrAt.mono {base base' : Nat} {W : World} {bm : Nat} {l : List Edge} (h : GrAt base W bm l) (hb : base' ≤ base) (hm : bm < base') : GrAt base' W bm l := by
  obtain ⟨n, ks, g, h1, h2, h3, h4, h5⟩ := h
  refine ⟨n, ks, g, h1, hm, h3, fun s hs => ?_, h5⟩
  obtain ⟨q, e⟩ := h4 s hs
  refine ⟨q, ?_⟩
  rcases e with e | ⟨gg, cap, cur, e1, e2, e3⟩
  · exact .inl e
  · exact .inr ⟨gg, cap, cur, e1, Nat.le_trans hb e2, e3⟩

/-- One edge more. -/
theorem GrAt.step {base : Nat} {W W5 W6 : World} {bm n : Nat} {l : List Edge} {x : Edge} {ks : List ByteArray} {g : ByteArray → Value} {v' : Value}
    (hn : n ≤ l.length) (hb : bm < base) (hx : okS x.p) (h4 : ∀ s, okS s → W.ownsRow base 39 6 (g s) (grp s l).length (flatE (grp s l))) (h5 : ∀ s t k, okS s → okS t → s ≠ t → (g s).ownBlock = some k → (g t).ownBlock ≠ some k)
    (hown : W5.ownsRow base 39 6 v' ((grp x.p l).length + 1) (flatE (grp x.p l) ++ encE x)) (hg5 : W.grownBy W5 (g x.p).ownBlock) (hblk : v'.ownBlock = (g x.p).ownBlock ∨ v'.ownBlock = some W.heap.size)
    (hm : MapAt 9 Value.string okS (.slice none 0 0) W6 bm (n + 1) (ks ++ [x.p]) (upd g x.p v')) (hg6 : W5.grownBy W6 (some bm)) : GrAt base W6 bm (l ++ [x]) := by
  have hbm : ∀ {v : Value} {m : Nat} {xs : List Value} {W : World}, W.ownsRow base 39 6 v m xs → v.ownBlock = none ∨ v.ownBlock ≠ some bm := fun h => by
    right
    intro e
    have := (h.lt _ e).1
    omega
  refine ⟨n + 1, _, _, by simp; omega, hb, hm, fun s hs => ?_, fun s t k hs ht hne hsk => ?_⟩
  · by_cases e : s = x.p
    · subst e
      rw [upd_same]
      have e1 : grp x.p (l ++ [x]) = grp x.p l ++ [x] := by simp [grp]
      rw [e1]
      have := hown.kept hg6 (hbm hown)
      simpa [flatE] using this
    · rw [upd_other _ _ e]
      have e1 : grp s (l ++ [x]) = grp s l := by simp [grp, Ne.symm e]
      rw [e1]
      have h1 := (h4 s hs).kept hg5 (by
        cases hk : (g s).ownBlock with
        | none => exact .inl rfl
        | some k => exact .inr (fun e' => h5 s x.p k hs hx e hk e'.symm))
      exact h1.kept hg6 (hbm h1)
  · by_cases e : s = x.p
    · subst e
      rw [upd_same] at hsk
      rw [upd_other _ _ hne.symm]
      rcases hblk with hb' | hb'
      · rw [hb'] at hsk
        exact h5 _ t k hs ht hne hsk
      · rw [hb'] at hsk
        injection hsk with hsk
        intro e2
        have := ((h4 t ht).lt _ e2).2
        omega
    · rw [upd_other _ _ e] at hsk
      by_cases e2 : t = x.p
      · subst e2
        rw [upd_same]
        rcases hblk with hb' | hb'
        · rw [hb']
          exact h5 s _ k hs ht hne hsk
        · rw [hb']
          intro e3
          injection e3 with e3
          have := ((h4 s hs).lt _ hsk).2
          omega
      · rw [upd_other _ _ e2]
        exact h5 s t k hs ht hne hsk
theorem cells_of {W : World} {a : Addr} {u : Value} (h : W.cell? a = some u) : ∃ cs ty fr, W.heap[a.block]? = some (.cells cs ty fr) := by
  unfold World.cell? at h
  split at h
  · rename_i cs ty fr e
    exact ⟨cs, ty, fr, e⟩
  · cases h
theorem EdR.keep {n0 : Nat} {W W' : World} {v : Value} {l : List Edge} (h : EdR n0 W v l) (hk : ∀ k, n0 ≤ k → k < W.heap.size → (∃ cs ty fr, W.heap[k]? = some (.cells cs ty fr)) → W'.heap[k]? = W.heap[k]?) : EdR n0 W' v l := by
  obtain ⟨A, c, rfl, hA⟩ := h
  refine ⟨A, c, rfl, fun hl => ?_⟩
  obtain ⟨b, off, rfl, h0, hc⟩ := hA hl
  exact ⟨b, off, rfl, h0, fun j u hj => (World.cell?_of_block (hk _ h0 (World.block_lt_of_cell? W _ (hc j u hj)) (cells_of (hc j u hj)))).trans (hc j u hj)⟩
/-- Edge i's cells. -/
theorem EdR.cells {n0 : Nat} {W : World} {A : Option Addr} {n c : Nat} {l : List Edge} (h : EdR n0 W (.slice A n c) l) (i : Nat) (hi : i < l.length) : n = l.length ∧ ∃ b off, A = some ⟨b, off, none⟩ ∧ (W.cell? ⟨b, off + i * 6, none⟩ = some (.string l[i]!.p) ∧ W.cell? ⟨b, off + i * 6 + 1, none⟩ = some (.int .i64 l[i]!.n) ∧ W.cell? ⟨b, off + i * 6 + 2, none⟩ = some (.string l[i]!.q) ∧ W.cell? ⟨b, off + i * 6 + 3, none⟩ = some (.int .i64 l[i]!.m) ∧ W.cell? ⟨b, off + i * 6 + 4, none⟩ = some (.int .i64 l[i]!.k) ∧ W.cell? ⟨b, off + i * 6 + 5, none⟩ = some (.bool l[i]!.v)) := by
  obtain ⟨A', c', e, hA⟩ := h
  injection e with e1 e2 e3
  subst e1 e2
  have hl : l ≠ [] := fun e => by subst e; simp at hi
  obtain ⟨b, off, rfl, h0, hc⟩ := hA hl
  have hg : ∀ j, j < 6 → ∀ u, (encE l[i]!)[j]? = some u → W.cell? ⟨b, off + i * 6 + j, none⟩ = some u := fun j hj u hu => by
    have e := flatE_get l (i * 6 + j) (by omega)
    rw [show (i * 6 + j) / 6 = i by omega, show (i * 6 + j) % 6 = j by omega, hu] at e
    have := hc _ _ e
    rwa [← Nat.add_assoc] at this
  exact ⟨rfl, b, off, rfl, hg 0 (by omega) _ rfl, hg 1 (by omega) _ rfl, hg 2 (by omega) _ rfl, hg 3 (by omega) _ rfl, hg 4 (by omega) _ rfl, hg 5 (by omega) _ rfl⟩

theorem mem_ordE {l : List Edge} {x : Edge} (h : x ∈ ordE l) : x ∈ l := by
  unfold ordE Lib.compactUpTo at h
  rw [List.mem_map] at h
  obtain ⟨j, hj, rfl⟩ := h
  have hj2 : j < (sortE l).length := List.mem_range.1 (List.mem_filter.1 hj).1
  have : (sortE l).toArray[j]! ∈ sortE l := by
    rw [getElem!_pos (sortE l).toArray j (by simpa using hj2)]
    simp
  exact (List.mergeSort_perm l _).mem_iff.1 this
theorem mem_vulE {l : List Edge} {x : Edge} (h : x ∈ vulE l) : x ∈ l ∧ x.v = true := by
  have := mem_ordE h
  rw [List.mem_filter] at this
  exact this
theorem vulE_len (l : List Edge) : (vulE l).length ≤ l.length := Nat.le_trans (ordE_len _) (List.length_filter_le _ _)

/-- What Dangers hands back. -/
def DgAt (n0 : Nat) (V : List Edge) (f : Value) (W : World) : Prop := ∃ b1 b3 bm v base, f = .func (.func 30) #[] #[.pointer (some ⟨b1, 0, none⟩), .pointer (some ⟨b3, 0, none⟩)] ∧ n0 ≤ b1 ∧ n0 ≤ b3 ∧ n0 ≤ bm ∧ n0 ≤ base ∧
  W.heap[b1]? = some (.cells #[v] 22 (0, 0)) ∧ W.heap[b3]? = some (.cells #[.map (some bm)] 64 (0, 0)) ∧ EdR n0 W v V ∧ GrAt base W bm V

set_option maxHeartbeats 4000000 in
set_option maxRecDepth 100000 in
theorem dangers0_calls (W : World) (v : Value) (l : List Edge) {m0 : Nat} (h : EdR m0 W v l) (hn : l.length ≤ 1048576) (hs : ∀ e ∈ l, okS e.p) :
    Calls Tryz.prog 12 #[v] W fun e W' => Below W.heap.size W W' ∧ ∃ f, e = .returned f ∧ DgAt W.heap.size (vulE l) f W' := by
  have h' := h
  obtain ⟨A, c, rfl, _⟩ := h'
  have hmm := @run_makeMap Tryz.prog
  have t66 := Tryz.underlying64
  have t22 := Tryz.underlying22
  have hb0 := below_mk (Below.refl W.heap.size W) (.cells #[.slice A l.length c] 22)
  have hc := vulnerable_calls (W.alloc (.cells #[.slice A l.length c] 22)) _ l (h.below hb0) hn
  have HB0 := Aside0.mk hb0
  have HN0 := Aside0.mk (heap_alloc_new W (.cells #[.slice A l.length c] 22))
  clear hb0 h
  go_enter Tryz.func12, Tryz.ntmps12
  go_wp2_with fail
  go_at_call 29
  refine hc.mono ?_
  rintro e W1 ⟨hb1, v', rfl, hv'⟩
  have hv0 := hv'
  obtain ⟨A', c', rfl, _⟩ := hv0
  have hs1 : W.heap.size + 1 ≤ W1.heap.size := by have := hb1.size; simpa using this
  have hn1 := (hb1.block W.heap.size (by simp)).trans HN0.out
  have c1 := (blk_cell hn1 0).trans (show (#[Value.slice A l.length c])[0]? = some (.slice A l.length c) from rfl)
  have f1 := blk_frozen hn1 0
  have hB1 := below_to HB0.out hb1
  have hnS := blk_set hn1 0 (.slice A' (vulE l).length c')
  have hbS : Below W.heap.size W (W1.setCell ⟨W.heap.size, 0, none⟩ (.slice A' (vulE l).length c')) := hB1.setCell (p := ⟨W.heap.size, 0, none⟩) (Nat.le_refl _) _
  have eS : (W1.setCell ⟨W.heap.size, 0, none⟩ (.slice A' (vulE l).length c')).heap.size = W1.heap.size := by simp [World.setCell]
  have hES : EdR (W.heap.size + 1) (W1.setCell ⟨W.heap.size, 0, none⟩ (.slice A' (vulE l).length c')) (.slice A' (vulE l).length c') (vulE l) := (hv'.mono (by simp)).keep (fun k h1 h2 _ => Below.heap_setCell _ _ _ _ (by show k ≠ W.heap.size; omega))
  generalize hWS : W1.setCell ⟨W.heap.size, 0, none⟩ (.slice A' (vulE l).length c') = WS at hnS hbS eS hES
  have hnS' : WS.heap[W.heap.size]? = some (.cells #[.slice A' (vulE l).length c'] 22 (0, 0)) := hnS
  have e2 : (WS.alloc (.map #[] 0)).heap.size = W1.heap.size + 1 := by simp [eS]
  have e3 : ((WS.alloc (.map #[] 0)).alloc (.cells #[.map (some W1.heap.size)] 64)).heap.size = W1.heap.size + 2 := by simp [eS]
  have hb5 := below_mk (below_mk hbS (.map #[] 0)) (.cells #[.map (some W1.heap.size)] 64)
  have hn5 : ((WS.alloc (.map #[] 0)).alloc (.cells #[.map (some W1.heap.size)] 64)).heap[W.heap.size]? = some (.cells #[.slice A' (vulE l).length c'] 22 (0, 0)) := (Below.heap_alloc _ _ _ (by rw [e2]; omega)).trans ((Below.heap_alloc _ _ _ (by rw [eS]; omega)).trans hnS')
  have hn6 : ((WS.alloc (.map #[] 0)).alloc (.cells #[.map (some W1.heap.size)] 64)).heap[W1.heap.size + 1]? = some (.cells #[.map (some W1.heap.size)] 64 (0, 0)) := by
    rw [← e2]
    exact heap_alloc_new _ _
  have hG5 : GrAt (W1.heap.size + 2) ((WS.alloc (.map #[] 0)).alloc (.cells #[.map (some W1.heap.size)] 64)) W1.heap.size [] := by
    have := (GrAt.made WS (base := W1.heap.size + 2) (by rw [eS]; omega)).kept (World.grownBy_alloc _ (.cells #[.map (some W1.heap.size)] 64) none)
    rwa [eS] at this
  have hE5 := (hES.below (below_mk (below_mk (Below.refl _ WS) (.map #[] 0)) (.cells #[.map (some W1.heap.size)] 64)))
  have x0 := (blk_cell hn5 0).trans (show (#[Value.slice A' (vulE l).length c'])[0]? = some (.slice A' (vulE l).length c') from rfl)
  have H5 := Aside0.mk (And.intro hb5 (And.intro hn5 (And.intro hn6 (And.intro hG5 (And.intro hE5 e3)))))
  rw [← hWS] at x0 H5
  clear hb1 hv' hn1 hB1 hnS hbS eS hES hWS hnS' e2 e3 hb5 hn5 hn6 hG5 hE5 HB0 HN0 WS
  go_wp2_with fail
  generalize ((W1.setCell ⟨W.heap.size, 0, none⟩ (.slice A' (vulE l).length c')).alloc (.map #[] 0)).alloc (.cells #[.map (some W1.heap.size)] 64) = W5 at *
  clear c1 f1
  generalize hV : vulE l = V at *
  obtain ⟨hb5, hn5, hn6, hG5, hE5, hs5⟩ := H5.out
  have HV := Aside0.mk hV
  have HB5 := Aside0.mk hb5
  have HN5 := Aside0.mk (And.intro hn5 hn6)
  have HG5 := Aside0.mk hG5
  have HE5 := Aside0.mk hE5
  have HS5 := Aside0.mk hs5
  have HS1 := Aside0.mk hs1
  have hvl : V.length ≤ 1048576 := by rw [← hV]; exact Nat.le_trans (vulE_len l) hn
  have HP : Aside0 (∀ x ∈ V, okS x.p) := ⟨fun x hx => hs x (by rw [← hV] at hx; exact (mem_vulE hx).1)⟩
  clear hb5 hn5 hn6 hG5 hE5 hs5 H5 hV hs x0 hc
  go_loopw [11] (fun v wr => ∃ i : Nat, v = .int .i64 (i : Nat) ∧ i ≤ V.length ∧ Aside0 (W5.grownBy wr (some W1.heap.size) ∧ GrAt (W1.heap.size + 2) wr W1.heap.size (V.take i))) (fun v _ => V.length - (RowKit.intOf v).toNat)
  case atStart => exact ⟨0, rfl, Nat.zero_le _, ⟨grownBy_refl _ _, HG5.out⟩⟩
  case round =>
    obtain ⟨i, rfl, hi, HI⟩ := hrel
    by_cases hlt : i < V.length
    · have b1 : decide (((i : Nat) : Int) < ((V.length : Nat) : Int)) = true := decide_eq_true (by omega)
      have p0 : ((0 : Int) ≤ ((i : Nat) : Int)) = True := eq_true (by omega)
      have p1 : (((i : Nat) : Int) < ((V.length : Nat) : Int)) = True := eq_true (by omega)
      obtain ⟨hgw, hG⟩ := HI.out
      obtain ⟨n', ks, g, h1, h2, hm, hrows, hdis⟩ := hG
      have hEw : EdR (W.heap.size + 1) wr (.slice A' V.length c') V := HE5.out.keep (fun k _ hk hcs => hgw.block k hk (fun e => by
        injection e with e
        subst e
        obtain ⟨_, _, g0, _, _, hm0, _⟩ := HG5.out
        obtain ⟨es, cl, he⟩ := hm0.block
        obtain ⟨cs, ty, fr, hcs⟩ := hcs
        rw [he] at hcs
        cases hcs))
      obtain ⟨_, bb, off, rfl, y0, y1, y2, y3, y4, y5⟩ := hEw.cells i hlt
      have hx : V[i]! ∈ V := by rw [getElem!_pos V i hlt]; exact List.getElem_mem _
      have htk : V.take (i + 1) = V.take i ++ [V[i]!] := by rw [getElem!_pos V i hlt]; exact List.take_succ_eq_append_getElem hlt
      have hxo := HP.out _ hx
      have HTK := Aside0.mk htk
      obtain ⟨⟨p, n, q, m, k, v⟩, hxe⟩ : ∃ x, V[i]! = x := ⟨_, rfl⟩
      rw [hxe] at y0 y1 y2 y3 y4 y5 HTK hxo
      clear hxe hx htk hEw
      have HXO := Aside0.mk hxo
      have hwr : W1.heap.size + 2 ≤ wr.heap.size := by have := hgw.size; rw [HS5.out] at this; exact this
      have hbr := below_mk (Below.refl wr.heap.size wr) (.cells #[.string p, .int .i64 n, .string q, .int .i64 m, .int .i64 k, .bool v] 39)
      have hnN := heap_alloc_new wr (.cells #[.string p, .int .i64 n, .string q, .int .i64 m, .int .i64 k, .bool v] 39)
      have hgl0 : Aside0 (∀ s r, okS s → (g s).ownBlock = some r → r < wr.heap.size) := ⟨fun s r hs e => ((hrows s hs).lt r e).2⟩
      have hgA := World.grownBy_alloc wr (.cells #[.string p, .int .i64 n, .string q, .int .i64 m, .int .i64 k, .bool v] 39) none
      have hG2 : MapAt 9 Value.string okS (.slice none 0 0) (wr.alloc (.cells #[.string p, .int .i64 n, .string q, .int .i64 m, .int .i64 k, .bool v] 39)) W1.heap.size n' ks g ∧ ∀ s, okS s → (wr.alloc (.cells #[.string p, .int .i64 n, .string q, .int .i64 m, .int .i64 k, .bool v] 39)).ownsRow (W1.heap.size + 2) 39 6 (g s) (grp s (V.take i)).length (flatE (grp s (V.take i))) :=
        ⟨hm.kept hgA (by simp), fun s hs => (hrows s hs).alloc _⟩
      clear hgA hm hrows
      have hb3 : (wr.alloc (.cells #[.string p, .int .i64 n, .string q, .int .i64 m, .int .i64 k, .bool v] 39)).heap[W1.heap.size + 1]? = some (.cells #[.map (some W1.heap.size)] 64 (0, 0)) := by
        have h1 := hgw.block (W1.heap.size + 1) (by rw [HS5.out]; omega) (by simp)
        exact (hbr.block _ (by have := hgw.size; rw [HS5.out] at this; omega)).trans (h1.trans HN5.out.2)
      have c3 := (blk_cell hb3 0).trans (show (#[Value.map (some W1.heap.size)])[0]? = some (.map (some W1.heap.size)) from rfl)
      have x0 := (blk_cell hnN 0).trans (show (#[Value.string p, .int .i64 n, .string q, .int .i64 m, .int .i64 k, .bool v])[0]? = some (.string p) from rfl)
      have x1 := (blk_cell hnN 1).trans (show (#[Value.string p, .int .i64 n, .string q, .int .i64 m, .int .i64 k, .bool v])[1]? = some (.int .i64 n) from rfl)
      have x2 := (blk_cell hnN 2).trans (show (#[Value.string p, .int .i64 n, .string q, .int .i64 m, .int .i64 k, .bool v])[2]? = some (.string q) from rfl)
      have x3 := (blk_cell hnN 3).trans (show (#[Value.string p, .int .i64 n, .string q, .int .i64 m, .int .i64 k, .bool v])[3]? = some (.int .i64 m) from rfl)
      have x4 := (blk_cell hnN 4).trans (show (#[Value.string p, .int .i64 n, .string q, .int .i64 m, .int .i64 k, .bool v])[4]? = some (.int .i64 k) from rfl)
      have x5 := (blk_cell hnN 5).trans (show (#[Value.string p, .int .i64 n, .string q, .int .i64 m, .int .i64 k, .bool v])[5]? = some (.bool v) from rfl)
      have HG2 := Aside0.mk (And.intro hG2 (And.intro (show W5.grownBy (wr.alloc (.cells #[.string p, .int .i64 n, .string q, .int .i64 m, .int .i64 k, .bool v] 39)) (some W1.heap.size) from grown_step hgw (World.grownBy_alloc wr (.cells #[.string p, .int .i64 n, .string q, .int .i64 m, .int .i64 k, .bool v] 39) none) (fun r e => by cases e)) (show wr.heap.size < (wr.alloc (.cells #[.string p, .int .i64 n, .string q, .int .i64 m, .int .i64 k, .bool v] 39)).heap.size by simp)))
      clear hxo hgw hbr hnN hG2 hb3
      go_wp2_with fail
      have hms := wr.heap.size
      generalize wr.alloc (.cells #[.string p, .int .i64 n, .string q, .int .i64 m, .int .i64 k, .bool v] 39) = Wn at *
      obtain ⟨hG2, hgn, hltn⟩ := HG2.out
      have hm := hG2.1.kept (grownBy_drew (grownBy_refl Wn none)) (by simp)
      have hrows : ∀ s, okS s → Wn.drew.ownsRow (W1.heap.size + 2) 39 6 (g s) (grp s (V.take i)).length (flatE (grp s (V.take i))) := fun s hs => (hG2.2 s hs).kept (grownBy_drew (grownBy_refl Wn none)) (by cases (g s).ownBlock <;> simp)
      have hgn3 := grownBy_drew hgn
      have hlt3 : wr.heap.size < Wn.drew.heap.size := hltn
      have hS3 : (Wn.drew.cell? ⟨W1.heap.size + 1, 0, none⟩ = some (.map (some W1.heap.size)) ∧ Wn.drew.cell? ⟨wr.heap.size, 0, none⟩ = some (.string p) ∧ Wn.drew.cell? ⟨wr.heap.size, 1, none⟩ = some (.int .i64 n) ∧ Wn.drew.cell? ⟨wr.heap.size, 2, none⟩ = some (.string q) ∧ Wn.drew.cell? ⟨wr.heap.size, 3, none⟩ = some (.int .i64 m) ∧ Wn.drew.cell? ⟨wr.heap.size, 4, none⟩ = some (.int .i64 k) ∧ Wn.drew.cell? ⟨wr.heap.size, 5, none⟩ = some (.bool v)) := ⟨c3, x0, x1, x2, x3, x4, x5⟩
      have HBLK : Aside0 (∀ W' : World, (∀ kk, (kk = W1.heap.size + 1 ∨ kk = wr.heap.size) → W'.heap[kk]? = Wn.drew.heap[kk]?) → (W'.cell? ⟨W1.heap.size + 1, 0, none⟩ = some (.map (some W1.heap.size)) ∧ W'.cell? ⟨wr.heap.size, 0, none⟩ = some (.string p) ∧ W'.cell? ⟨wr.heap.size, 1, none⟩ = some (.int .i64 n) ∧ W'.cell? ⟨wr.heap.size, 2, none⟩ = some (.string q) ∧ W'.cell? ⟨wr.heap.size, 3, none⟩ = some (.int .i64 m) ∧ W'.cell? ⟨wr.heap.size, 4, none⟩ = some (.int .i64 k) ∧ W'.cell? ⟨wr.heap.size, 5, none⟩ = some (.bool v))) := ⟨fun W' hk => by
        obtain ⟨a0, a1, a2, a3, a4, a5, a6⟩ := hS3
        have e1 := hk _ (Or.inl rfl)
        have e2 := hk _ (Or.inr rfl)
        exact ⟨(World.cell?_of_block e1).trans a0, (World.cell?_of_block e2).trans a1, (World.cell?_of_block e2).trans a2, (World.cell?_of_block e2).trans a3, (World.cell?_of_block e2).trans a4, (World.cell?_of_block e2).trans a5, (World.cell?_of_block e2).trans a6⟩⟩
      have hbs3 : W1.heap.size + 2 ≤ Wn.drew.heap.size := by have := hgn3.size; rw [HS5.out] at this; exact this
      have hEq : Wn.drew.drewN 0 = Wn.drew := rfl
      clear x0 x1 x2 x3 x4 x5 c3 HG2 hG2 hgn hltn
      have hlk : Sem.run Tryz.prog (Instr.lookup 64 (.map (some W1.heap.size)) (.string p) false) Wn.drew = .ok (g p) Wn.drew := hm.look keyS t66 (zv22 _) HXO.out
      have hma := hm.kept (World.grownBy_alloc Wn.drew (.cells #[.string p, .int .i64 n, .string q, .int .i64 m, .int .i64 k, .bool v] 39) none) (by simp)
      have hlk2 : Sem.run Tryz.prog (Instr.lookup 64 (.map (some W1.heap.size)) (.string p) false) (Wn.alloc (.cells #[.string p, .int .i64 n, .string q, .int .i64 m, .int .i64 k, .bool v] 39)).drew = .ok (g p) (Wn.alloc (.cells #[.string p, .int .i64 n, .string q, .int .i64 m, .int .i64 k, .bool v] 39)).drew := hma.look keyS t66 (zv22 _) HXO.out
      obtain ⟨i0, hi0, hz0, hz1, hz2⟩ := info_parts info31s
      have hown : Aside0 ((Wn.drew.alloc (.cells #[.string p, .int .i64 n, .string q, .int .i64 m, .int .i64 k, .bool v] 39)).ownsRow (W1.heap.size + 2) 39 6 (g p) (grp p (V.take i)).length (flatE (grp p (V.take i)))) := ⟨(hrows p HXO.out).alloc _⟩
      have hgl : (grp p (V.take i)).length ≤ 1048576 := by
        have h1 : (grp p (V.take i)).length ≤ (V.take i).length := List.length_filter_le _ _
        rw [List.length_take] at h1
        omega
      have hq4 : Aside0 ((grp p (V.take i)).length + 1 ≤ maxLen) := ⟨by unfold maxLen; omega⟩
      have hq5 : Aside0 (((grp p (V.take i)).length + 1) * 64 ≤ 140737488355328) := ⟨by omega⟩
      have hbs : Aside0 (W1.heap.size + 2 ≤ (Wn.drew.alloc (.cells #[.string p, .int .i64 n, .string q, .int .i64 m, .int .i64 k, .bool v] 39)).heap.size) := ⟨by rw [World.size_alloc]; omega⟩
      have hnews : Aside0 (∀ j u, (encE ⟨p, n, q, m, k, v⟩)[j]? = some u → (Wn.drew.alloc (.cells #[.string p, .int .i64 n, .string q, .int .i64 m, .int .i64 k, .bool v] 39)).cell? ((⟨Wn.drew.heap.size, 0, none⟩ : Addr).add j) = some u) := ⟨fun j u hj => by
        rw [Addr.add_lit, Nat.zero_add, blk_cell (heap_alloc_new Wn.drew _)]
        simpa [encE] using hj⟩
      have hSa := HBLK.out (Wn.drew.alloc (.cells #[.string p, .int .i64 n, .string q, .int .i64 m, .int .i64 k, .bool v] 39)) (fun kk hk => Below.heap_alloc _ _ _ (by rcases hk with rfl | rfl <;> omega))
      have HUP : Aside0 (∀ v' W5', W5'.ownsRow (W1.heap.size + 2) 39 6 v' ((grp p (V.take i)).length + 1) (flatE (grp p (V.take i)) ++ encE ⟨p, n, q, m, k, v⟩) → (Wn.drew.alloc (.cells #[.string p, .int .i64 n, .string q, .int .i64 m, .int .i64 k, .bool v] 39)).grownBy W5' (g p).ownBlock →
          (v'.ownBlock = (g p).ownBlock ∨ v'.ownBlock = some (Wn.drew.alloc (.cells #[.string p, .int .i64 n, .string q, .int .i64 m, .int .i64 k, .bool v] 39)).heap.size) →
          ∃ W6, Sem.run Tryz.prog (Instr.mapUpdate 64 (.map (some W1.heap.size)) (.string p) v') W5' = .ok () W6 ∧ (W5'.cell? ⟨W1.heap.size + 1, 0, none⟩ = some (.map (some W1.heap.size)) ∧ W5'.cell? ⟨wr.heap.size, 0, none⟩ = some (.string p) ∧ W5'.cell? ⟨wr.heap.size, 1, none⟩ = some (.int .i64 n) ∧ W5'.cell? ⟨wr.heap.size, 2, none⟩ = some (.string q) ∧ W5'.cell? ⟨wr.heap.size, 3, none⟩ = some (.int .i64 m) ∧ W5'.cell? ⟨wr.heap.size, 4, none⟩ = some (.int .i64 k) ∧ W5'.cell? ⟨wr.heap.size, 5, none⟩ = some (.bool v)) ∧ (W6.cell? ⟨W1.heap.size + 1, 0, none⟩ = some (.map (some W1.heap.size)) ∧ W6.cell? ⟨wr.heap.size, 0, none⟩ = some (.string p) ∧ W6.cell? ⟨wr.heap.size, 1, none⟩ = some (.int .i64 n) ∧ W6.cell? ⟨wr.heap.size, 2, none⟩ = some (.string q) ∧ W6.cell? ⟨wr.heap.size, 3, none⟩ = some (.int .i64 m) ∧ W6.cell? ⟨wr.heap.size, 4, none⟩ = some (.int .i64 k) ∧ W6.cell? ⟨wr.heap.size, 5, none⟩ = some (.bool v)) ∧ Aside0 (W5.grownBy W6 (some W1.heap.size) ∧ GrAt (W1.heap.size + 2) W6 W1.heap.size (V.take (i + 1)))) := ⟨fun v' W5' hown5 hgrow5 hblk5 => by
        have hr : ∀ r, (g p).ownBlock = some r → W1.heap.size + 2 ≤ r ∧ r < Wn.drew.heap.size := fun r e => (hrows p HXO.out).lt r e
        have hm5 := hma.kept hgrow5 (fun e => by have := (hr _ e.symm).1; omega)
        obtain ⟨W6, hrun6, hm6, hg6⟩ := hm5.update keyS t66 (by unfold maxLen; rw [List.length_take] at h1; omega) HXO.out v'
        have hne : ∀ r, (g p).ownBlock = some r → r ≠ wr.heap.size := fun r e e2 => by have := hgl0.out p r HXO.out e; omega
        have e5 : ∀ kk, (kk = W1.heap.size + 1 ∨ kk = wr.heap.size) → W5'.heap[kk]? = Wn.drew.heap[kk]? := fun kk hk => by
          refine (hgrow5.block kk (by rw [World.size_alloc]; rcases hk with rfl | rfl <;> omega) (fun e => ?_)).trans (Below.heap_alloc _ _ _ (by rcases hk with rfl | rfl <;> omega))
          rcases hk with rfl | rfl
          · have := (hr _ e.symm).1; omega
          · exact hne _ e.symm rfl
        have hsz5 := hgrow5.size
        rw [World.size_alloc] at hsz5
        refine ⟨W6, hrun6, HBLK.out W5' e5, HBLK.out W6 (fun kk hk => (hg6.block kk (by rcases hk with rfl | rfl <;> omega) (fun e => by injection e with e; rcases hk with rfl | rfl <;> omega)).trans (e5 kk hk)), ⟨?_, ?_⟩⟩
        · exact grown_step (grown_step (grown_step hgn3 (World.grownBy_alloc _ _ none) (fun r e => by cases e)) hgrow5 (fun r e => Or.inl (by rw [HS5.out]; exact (hr r e).1))) hg6 (fun r e => Or.inr (by injection e with e; exact e.symm))
        · rw [HTK.out]
          refine GrAt.step (W := Wn.drew.alloc (.cells #[.string p, .int .i64 n, .string q, .int .i64 m, .int .i64 k, .bool v] 39)) (x := ⟨p, n, q, m, k, v⟩) h1 h2 HXO.out (fun s hs => (hrows s hs).alloc _) hdis hown5 hgrow5 hblk5 hm6 hg6⟩
      clear h1 h2 hm hrows hdis hma hgn3 hlt3 hbs3 hgl hEq
      go_region_held_law (fun W' : World => (W'.cell? ⟨W1.heap.size + 1, 0, none⟩ = some (.map (some W1.heap.size)) ∧ W'.cell? ⟨wr.heap.size, 0, none⟩ = some (.string p) ∧ W'.cell? ⟨wr.heap.size, 1, none⟩ = some (.int .i64 n) ∧ W'.cell? ⟨wr.heap.size, 2, none⟩ = some (.string q) ∧ W'.cell? ⟨wr.heap.size, 3, none⟩ = some (.int .i64 m) ∧ W'.cell? ⟨wr.heap.size, 4, none⟩ = some (.int .i64 k) ∧ W'.cell? ⟨wr.heap.size, 5, none⟩ = some (.bool v))) (first | assumption | exact hS3 | exact hSa) ((refine step_append_at rfl _ _ 22 rfl (W1.heap.size + 2) 39 i0 (.agg (encE zrE).toArray) 6 64 t22 hi0 hz0 hz1 hz2 rfl (by omega) _ _ _ rfl hown.out ⟨Wn.drew.heap.size, 0, none⟩ 1 1 (encE ⟨p, n, q, m, k, v⟩) rfl rfl hnews.out (encE_one _) hq4.out hq5.out hbs.out ?_; intro v' W5' hown5 hgrow5 hnil5 hblk5; obtain ⟨W6, hrun6, hS5, hS6, HF⟩ := HUP.out v' W5' hown5 hgrow5 hblk5))
      all_goals
        clear hlk hlk2 hS3 hSa
        go_wp2
        go_roundw
        case measure => show V.length - (i + 1) < V.length - i; omega
        case rel => exact ⟨i + 1, by first | rfl | (simp; done), by omega, by assumption⟩
    · obtain rfl : i = V.length := by omega
      have b1 : decide (((V.length : Nat) : Int) < ((V.length : Nat) : Int)) = false := decide_eq_false (by omega)
      obtain ⟨hgw, hG⟩ := HI.out
      have hEw : EdR (W.heap.size + 1) wr (.slice A' V.length c') V := HE5.out.keep (fun k _ hk hcs => hgw.block k hk (fun e => by
        injection e with e
        subst e
        obtain ⟨_, _, g0, _, _, hm0, _⟩ := HG5.out
        obtain ⟨es, cl, he⟩ := hm0.block
        obtain ⟨cs, ty, fr, hcs⟩ := hcs
        rw [he] at hcs
        cases hcs))
      rw [List.take_length] at hG
      have hs1 := HS1.out
      have hs5 := HS5.out
      have HF : Aside0 (Below W.heap.size W wr ∧ DgAt W.heap.size V (.func (.func 30) #[] #[.pointer (some ⟨W.heap.size, 0, none⟩), .pointer (some ⟨W1.heap.size + 1, 0, none⟩)]) wr) :=
        ⟨HB5.out.trans (grownBy_below hgw (by omega) (fun k e => by injection e with e; omega)), _, _, W1.heap.size, _, W1.heap.size + 2, rfl, Nat.le_refl _, by omega, by omega, by omega,
          (hgw.block _ (by omega) (fun e => by injection e with e; omega)).trans HN5.out.1, (hgw.block _ (by omega) (fun e => by injection e with e; omega)).trans HN5.out.2, hEw.mono (by omega), hG⟩
      clear hgw hG hEw hs1 hs5 HI
      go_wp2
      go_ret
      exact ⟨HF.out.1, _, rfl, by rw [HV.out]; exact HF.out.2⟩
end Go.Proofs.YtknpkfjaffhejaaGreat
