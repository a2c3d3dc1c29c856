/- WHAT IS PROVED: rows of edges: 6 cells an edge: stored into, cleared; '==' of edges. -/
import Derived.Test.YtknpkfjaffhejaaGreatCm
import Derived.Test.YtknpkfjaffhejaaGreatSh
import Derived.Laws.StructEq
import Derived.Laws.IdiomCopy
import Derived.Shelf.SlSortFuncK.RowK2
import Derived.Shelf.SlicesQ.Reverse
import Derived.Test.YtknpkfjaffhejaaGreatWEqStruct
namespace Go.Proofs.YtknpkfjaffhejaaGreat
open Go.RowKit Go.Sort Go.Proofs.YtknpkfjaffhejaaGreatW.PrintWords Go.Proofs.YtknpkfjaffhejaaGreatW.PrintLast Go.Proofs.YtknpkfjaffhejaaGreatW.PrintMore
set_option linter.unusedVariables false
set_option linter.unusedSimpArgs false
deriving instance DecidableEq for Edge

theorem encE_len (x : Edge) : (encE x).length = 6 := rfl
theorem encE_one (x : Edge) : ∀ v ∈ encE x, v.oneCell' = true := fun v hv => by
  simp [encE] at hv
  rcases hv with rfl | rfl | rfl | rfl | rfl | rfl <;> rfl

theorem eqA29 (d : Nat) (w : World) (x0 y0 : ByteArray) (x1 y1 : Int) :
    (Op.equalIn (d + 2) 37 (.agg #[.string x0, .int .i64 x1]) (.agg #[.string y0, .int .i64 y1])).run Tryz.prog w = .ok (x0.toList == y0.toList && (x1 == y1)) w := by
  refine eqA_of Tryz.underlying37 (by kernel_rfl) ?_
  refine eqf_cons (by rfl) (by go_simp; rfl) (by go_simp; rfl) (by go_simp) ?_
  exact eqf_last (by rfl) (by go_simp; rfl) (by go_simp; rfl) (by go_simp)
theorem eqA31 (d : Nat) (w : World) (x0 y0 : ByteArray) (x1 y1 : Int) (x2 y2 : ByteArray) (x3 y3 : Int) (x4 y4 : Int) (x5 y5 : Bool) :
    (Op.equalIn (d + 3) 39 (.agg #[.string x0, .int .i64 x1, .string x2, .int .i64 x3, .int .i64 x4, .bool x5]) (.agg #[.string y0, .int .i64 y1, .string y2, .int .i64 y3, .int .i64 y4, .bool y5])).run Tryz.prog w = .ok ((x0.toList == y0.toList && (x1 == y1)) && ((x2.toList == y2.toList && (x3 == y3)) && (x4 == y4 && (x5 == y5)))) w := by
  refine eqA_of Tryz.underlying39 (by kernel_rfl) ?_
  refine eqf_cons (by rfl) (by go_simp) (by go_simp) (eqA29 (d + 0) w _ _ _ _) ?_
  refine eqf_cons (by rfl) (by go_simp) (by go_simp) (eqA29 (d + 0) w _ _ _ _) ?_
  refine eqf_cons (by rfl) (by go_simp; rfl) (by go_simp; rfl) (by go_simp) ?_
  exact eqf_last (by rfl) (by go_simp; rfl) (by go_simp; rfl) (by go_simp)

theorem toList_dec {a b : ByteArray} : (a.toList == b.toList) = decide (a = b) := by
  by_cases h : a = b
  · subst h; simp
  · have : a.toList ≠ b.toList := fun e => h (toList_inj e)
    simp [h, this]
theorem eqE_bool (p p' : ByteArray) (n n' : Int) (q q' : ByteArray) (m m' k k' : Int) (v v' : Bool) : ((p.toList == p'.toList && (n == n')) && ((q.toList == q'.toList && (m == m')) && (k == k' && (v == v')))) = decide ((⟨p, n, q, m, k, v⟩ : Edge) = ⟨p', n', q', m', k', v'⟩) := by
  simp only [toList_dec, Edge.mk.injEq]
  rw [Bool.eq_iff_iff]
  simp [and_assoc]

theorem eqE (x y : Edge) (w : World) : Sem.run Tryz.prog (binOp .eql 39 (.agg (encE x).toArray) (.agg (encE y).toArray)) w = .ok (.bool (decide (x = y))) w := by
  obtain ⟨p, n, q, m, k, v⟩ := x
  obtain ⟨p', n', q', m', k', v'⟩ := y
  rw [run_eql_struct, show (10000 : Nat) = 9997 + 3 from rfl]
  simp only [encE]
  rw [eqA31 9997 w p p' n n' q q' m m' k k' v v', eqE_bool]
  rfl
theorem neE (x y : Edge) (w : World) : Sem.run Tryz.prog (binOp .neq 39 (.agg (encE x).toArray) (.agg (encE y).toArray)) w = .ok (.bool (!decide (x = y))) w := by
  obtain ⟨p, n, q, m, k, v⟩ := x
  obtain ⟨p', n', q', m', k', v'⟩ := y
  rw [run_neq_struct, show (10000 : Nat) = 9997 + 3 from rfl]
  simp only [encE]
  rw [eqA31 9997 w p p' n n' q q' m m' k k' v v', eqE_bool]
  rfl
theorem guardE (op : BinOp) (a b : Operand) (x y : Edge) (w : World) : Sem.run Tryz.prog (eqGuard op 39 a b (.agg (encE x).toArray) (.agg (encE y).toArray)) w = .ok () w := run_eqGuard_agg w op 39 a b _ _ (by kernel_rfl)
theorem inE (x y : Edge) (w : World) : Sem.run Tryz.prog (Op.equalIn 10000 39 (.agg (encE x).toArray) (.agg (encE y).toArray)) w = .ok (decide (x = y)) w := by
  obtain ⟨p, n, q, m, k, v⟩ := x
  obtain ⟨p', n', q', m', k', v'⟩ := y
  rw [show (10000 : Nat) = 9997 + 3 from rfl]
  simp only [encE]
  rw [eqA31 9997 w p p' n n' q q' m m' k k' v v', eqE_bool]

/-! ### The row -/
theorem below_setCells {B b : Nat} {a : World} (hb : B ≤ b) : ∀ (vs : List Value) (o : Nat) (w : World), Below B a w → Below B a (w.setCells b o vs)
  | [], _, _, h => h
  | v :: r, o, w, h => below_setCells hb r (o + 1) _ (h.trans ⟨rfl, rfl, rfl, by simp [World.setCell], fun k hk => Below.heap_setCell _ _ _ _ (by show k ≠ b; omega)⟩)
theorem size_setCells (b : Nat) : ∀ (vs : List Value) (o : Nat) (w : World), (w.setCells b o vs).heap.size = w.heap.size
  | [], _, _ => rfl
  | v :: r, o, w => by rw [World.setCells, size_setCells b r]; simp [World.setCell]

theorem setMany_set (d : Array Edge) (i : Nat) (x : Edge) (hi : i < d.size) : setMany (flatK encE 6 d) (i * 6) (encE x) = flatK encE 6 (d.setIfInBounds i x) := by
  refine ext_get! (by simp) fun t ht => ?_
  have ht' : t < d.size * 6 := by simpa using ht
  rw [get_setMany _ _ _ t (by simpa using ht'), get_flatK _ _ _ t ht', get_flatK _ _ _ t (by simpa using ht'), encE_len]
  by_cases a : t / 6 = i
  · rw [if_pos ((blk_iff 6 i t (by omega)).2 a), a, getElem!_set_same d i x hi]
    congr 1
    omega
  · rw [if_neg (fun h => a ((blk_iff 6 i t (by omega)).1 h)), getElem!_set_other d i _ x a]
theorem holdsK_set {W : World} {blk off : Nat} {d : Array Edge} (hH : HoldsK encE 6 W blk off d) (i : Nat) (x : Edge) (hi : i < d.size) : HoldsK encE 6 (W.setCells blk (off + i * 6) (encE x)) blk off (d.setIfInBounds i x) := by
  have e : W.setCells blk (off + i * 6) (encE x) = putRowK encE 6 W blk off (d.setIfInBounds i x) := by
    conv => lhs; rw [← putRowK_self encE 6 W blk off d hH]
    unfold putRowK
    rw [setCells_putRow _ _ _ _ _ _ (by rw [encE_len, size_flatK]; omega), setMany_set d i x hi]
  rw [e]
  exact holdsK_putRowK encE 6 W blk off d _ hH (by simp)
theorem storeE {W : World} {blk off : Nat} {d : Array Edge} (hH : HoldsK encE 6 W blk off d) (i : Nat) (x : Edge) (hi : i < d.size) : Sem.run Tryz.prog (storeCells ⟨blk, off + i * 6, none⟩ (encE x) 0) W = .ok () (W.setCells blk (off + i * 6) (encE x)) :=
  stores_of_holds Tryz.prog hH (i * 6) (encE x) (by rw [encE_len, size_flatK]; omega) (encE_one x)
theorem loadE {W : World} {blk off : Nat} {d : Array Edge} (hH : HoldsK encE 6 W blk off d) (i : Nat) (hi : i < d.size) : Sem.run Tryz.prog (loadCellsFrom ⟨blk, off + i * 6, none⟩ 0 6 #[]) W = .ok (encE d[i]!).toArray W :=
  run_loadCellsFrom_list Tryz.prog _ _ _ 6 (encE_len _) (HoldsK.cells hH encE_len hi)

/-- A row of edges in a block that came behind w0. -/
structure Row (w0 : World) (blk off : Nat) (d : Array Edge) (W : World) : Prop where
  old : w0.heap.size ≤ blk
  lt : blk < W.heap.size
  below : Below w0.heap.size w0 W
  holds : HoldsK encE 6 W blk off d

theorem Row.drew {w0 : World} {blk off : Nat} {d : Array Edge} {W : World} (h : Row w0 blk off d W) : Row w0 blk off d W.drew := ⟨h.old, h.lt, h.below.trans ⟨rfl, rfl, rfl, Nat.le_refl _, fun _ _ => rfl⟩, h.holds⟩
theorem Row.set {w0 : World} {blk off : Nat} {d : Array Edge} {W : World} (h : Row w0 blk off d W) (i : Nat) (x : Edge) (hi : i < d.size) : Row w0 blk off (d.setIfInBounds i x) (W.setCells blk (off + i * 6) (encE x)) :=
  ⟨h.old, by rw [size_setCells]; exact h.lt, below_setCells h.old _ _ _ h.below, holdsK_set h.holds i x hi⟩
theorem Row.gr {w0 : World} {blk off : Nat} {d : Array Edge} {W W' : World} (h : Row w0 blk off d W) (g : Gr W W') : Row w0 blk off d W' := by
  have hb := g.below
  refine ⟨h.old, Nat.lt_of_lt_of_le h.lt hb.size, h.below.trans (hb.mono h.below.size), fun j hj => ?_⟩
  have hbl := hb.block blk h.lt
  have := h.holds j hj
  exact ⟨(World.cell?_of_block hbl).trans this.1, (World.frozen?_of_block hbl).trans this.2⟩
theorem Row.sorted {w0 : World} {blk off : Nat} {d d' : Array Edge} {W : World} (h : Row w0 blk off d W) (hs : d'.size = d.size) (n : Nat) (os : Array Obj) : Row w0 blk off d' (sortWorldK encE 6 W blk off n d' os) := by
  refine ⟨h.old, Nat.lt_of_lt_of_le h.lt (size_sortWorldK_c encE 6 W blk off n d' os), ?_, holdsK_sortWorldK_c encE 6 W blk off d d' n os h.holds h.lt hs⟩
  refine h.below.trans ⟨rfl, rfl, rfl, size_sortWorldK_c encE 6 W blk off n d' os, fun k hk => ?_⟩
  have hkW : k < W.heap.size := Nat.lt_of_lt_of_le hk h.below.size
  unfold sortWorldK
  rw [heap_grow_old _ _ (by rw [size_putRowK]; exact hkW)]
  have hne : blk ≠ k := by have := h.old; omega
  simp [putRowK, putRow, mapBlock, Array.getElem?_modify, hne, Sort.ahead]
end Go.Proofs.YtknpkfjaffhejaaGreat
