/- WHAT IS PROVED: a tree whose nodes lie in a given set of blocks; the document's Delete is delL. how a script of operations is read. what the reading of a script gives. the document's Delete, by what it reads. changes puts into, or deletes out of, a tree and its list. begun makes two trees of an order. New and begun refuse an order that is none. live answers true. -/
import Derived.Test.YtjabcdfbncglnaaLB10
import Derived.Test.YtjabcdfbncglnaaLB11
import Derived.Test.YtjabcdfbncglnaaLB0
import Derived.Deep.Slices
import Derived.Deep.Fields
import Derived.ChangeSame
import Derived.StillTailTactics
import Derived.Deep.RegionWith
import Derived.Deep.RegionHeld3
namespace Go.Proofs.Ytjabcdfbncglnaa
open Go.RowKit Go.Proofs.YtjabcdfbncglnaaW.PrintWords Go.Proofs.YtjabcdfbncglnaaW.PrintLast Go.Proofs.YtjabcdfbncglnaaW.PrintMore
open PTreeRanks (S59 k59 z59)
set_option linter.unusedVariables false
set_option linter.unusedSimpArgs false

/-- A tree of an order in block bt, its nodes in blocks that are ok, with these elements. -/
def TG (order : Nat) (l : List S59) (ok : Nat → Prop) (bt : Nat) (w : World) : Prop :=
  3 ≤ order ∧ order ≤ 64 ∧ ∃ t : AT, listA t = l ∧ WFA order t ∧ KeysLe 281474976710656 t.1 t.2 ∧ ∃ v, w.heap[bt]? = some (.cells #[.int .i64 order, v] 71 (0, 0)) ∧ (NK t.1).M w 0 ok t.2 [v]

variable {order bt : Nat} {ok ok' : Nat → Prop} {l : List S59} {w w' : World}

theorem TG.lt (h : TG order l ok bt w) : bt < w.heap.size := by
  obtain ⟨_, _, t, _, _, _, v, h1, _⟩ := h
  exact blk_lt h1
theorem TG.sorted (h : TG order l ok bt w) : SortedK (keysOf l) := by
  obtain ⟨h1, _, t, rfl, h2, _⟩ := h
  exact listA_sorted h1 h2
theorem TG.imp (h : TG order l ok bt w) (hi : ∀ k, ok k → k < w.heap.size → ok' k) : TG order l ok' bt w := by
  obtain ⟨h1, h2, t, e, h3, h4, v, h5, h6⟩ := h
  exact ⟨h1, h2, t, e, h3, h4, v, h5, (NK t.1).M_mono (fun k hk => hi k hk.1 hk.2.2.1) ((NK t.1).M_bound h6)⟩
theorem TG.step (h : TG order l ok bt w) (hm : ∀ k, ok k ∨ k = bt → k < w.heap.size → w'.heap[k]? = w.heap[k]?) : TG order l ok bt w' := by
  obtain ⟨h1, h2, t, e, h4, hkl, v, h5, h6⟩ := h
  exact ⟨h1, h2, t, e, h4, hkl, v, (hm bt (.inr rfl) (blk_lt h5)).trans h5, Kd.M_step h6 (fun k hk hlt => hm k (.inl hk) hlt)⟩
theorem TG.below (h : TG order l ok bt w) (hb : Below w.heap.size w w') : TG order l ok bt w' := h.step (fun k _ hlt => hb.block k hlt)
theorem TL.gen {base : Nat} (h : TL order l base bt w) : TG order l (fun k => base ≤ k ∧ k ≠ bt ∧ k < w.heap.size) bt w := by
  obtain ⟨h1, h2, h3, t, e, h4, hkl, v, h5, h6⟩ := h
  exact ⟨h1, h2, t, e, h4, hkl, v, h5, (NK t.1).M_mono (fun k hk => ⟨hk.1.1, hk.1.2, hk.2.2.1⟩) ((NK t.1).M_bound h6)⟩
theorem TG.tl (h : TG order l ok bt w) (hbt : ¬ ok bt) : TL order l 0 bt w := by
  obtain ⟨h1, h2, t, e, h4, hkl, v, h5, h6⟩ := h
  exact ⟨h1, h2, Nat.zero_le _, t, e, h4, hkl, v, h5, (NK t.1).M_mono (fun k hk => ⟨Nat.zero_le _, fun e => hbt (e ▸ hk)⟩) h6⟩

theorem TG_put (h : TG order l ok bt w) (k : ByteArray) (hk : k.size ≤ 281474976710656) (hl : l.length < 1099511627776) (hok : ∀ k, w.heap.size ≤ k → ok k) (hbt : ¬ ok bt) (x : Int) : Calls Try.prog 25 #[.pointer (some ⟨bt, 0, none⟩), .string k, .int .i64 x] w fun e w' =>
    e = .returned (.tuple #[.bool (!has (keysOf l) k), .int .i64 0]) ∧ w.grownBy w' (some bt) ∧ TG order (insL l k x) ok bt w' := by
  obtain ⟨h1, h2, t, rfl, h4, hkl, v, h5, h6⟩ := h
  have hkl := putRoot_keys (order := order) x hk hkl
  have hp := putRoot_WF h1 h4 k x
  have hT : TreeIn order t bt ok w := ⟨v, h5, h6, Shape_of_WF h1 h2 h4, by rw [sizeA_eq]; exact hl⟩
  refine (Put_calls k x h1 (by omega) hT hok hbt).mono ?_
  rintro e w' ⟨rfl, hg, v', h7, h8⟩
  refine ⟨?_, hg, h1, h2, _, hp.2, hp.1, hkl, v', h7, h8⟩
  rw [sizeA_eq, sizeA_eq, hp.2, insL_length]
  cases has (keysOf (listA t)) k <;> simp

theorem TG_delete (h : TG order l ok bt w) (k : ByteArray) (hl : l.length < 1099511627776) (hok : ∀ k, w.heap.size ≤ k → ok k) (hbt : ¬ ok bt) : Calls Try.prog 27 #[.pointer (some ⟨bt, 0, none⟩), .string k] w fun e w' =>
    e = .returned (.tuple #[.bool (has (keysOf l) k), .int .i64 0]) ∧ w.grownBy w' (some bt) ∧ TG order (delL l k) ok bt w' := by
  obtain ⟨h1, h2, t, rfl, h4, hkl, v, h5, h6⟩ := h
  have hp := deleteRoot_WF h1 h4 k
  refine (Delete_calls k h1 h2 h4 h5 h6 (by rw [sizeA_eq]; exact hl) hok hbt).mono ?_
  rintro e w' ⟨rfl, hg, v', h7, h8⟩
  refine ⟨?_, hg, h1, h2, _, hp.2, hp.1, deleteRoot_keys hkl, v', h7, h8⟩
  rw [sizeA_eq, sizeA_eq, hp.2, delL_length]
  cases hh : has (keysOf (listA t)) k with
  | false => simp
  | true =>
    have := has_lt hh
    rw [keysOf_length] at this
    simp
    omega

theorem refDelete {l : List S59} (k : ByteArray) (hs : SortedK (keysOf l)) (hn : l.length < 5864062014800) : PTreeRanks.keystoneref05_Delete.f (l.length + 1) l k = some (delL l k) := by
  unfold PTreeRanks.keystoneref05_Delete.f
  rw [refRank k hs (by omega), refHas k hs (by omega)]
  have hr := rank_le (keysOf l) k
  rw [keysOf_length] at hr
  have hl := @has_lt (keysOf l) k
  rw [keysOf_length] at hl
  simp only [Option.bind_some]
  unfold delL
  by_cases h : has (keysOf l) k = true
  · have hl := hl h
    rw [if_pos h, if_pos h, if_pos (by omega), if_pos (by omega), wrap_small _ (by omega) (by omega)]
    rw [if_pos (by simp; omega), if_pos (by omega), if_pos (by omega)]
    rw [if_pos (by simp; omega)]
    congr 1
    have e : (((rank (keysOf l) k : Nat) : Int) + 1).toNat = rank (keysOf l) k + 1 := by omega
    rw [e, Int.toNat_natCast, List.eraseIdx_eq_take_drop_succ]
    simp
  · rw [if_neg h, if_neg h]
end Go.Proofs.Ytjabcdfbncglnaa
namespace Go.Proofs.Ytjabcdfbncglnaa
open Go.RowKit Go.Proofs.YtjabcdfbncglnaaW.PrintWords Go.Proofs.YtjabcdfbncglnaaW.PrintLast Go.Proofs.YtjabcdfbncglnaaW.PrintMore
set_option linter.unusedVariables false
set_option linter.unusedSimpArgs false

/-- An operation of a script. -/
structure S46 where
  kd : Int
  other : Bool
  k : ByteArray
  k2 : ByteArray
  v : Int
  i : Int
  beyond : Bool
def S46.vals (x : S46) : List Value := [.int .i64 x.kd, .bool x.other, .string x.k, .string x.k2, .int .i64 x.v, .int .i64 x.i, .bool x.beyond]

/-- A row of operations, by its cells. -/
def OpsAt (w : World) (A : Option Addr) (n : Nat) (ops : List S46) : Prop :=
  ops.length = n ∧ (0 < n → ∃ ad, A = some ad ∧ ∀ (j : Nat) (x : S46), ops[j]? = some x → w.cell? (ad.add (j * 7)) = some (.int .i64 x.kd) ∧ ∀ (c : Nat) (u : Value), 0 < c → x.vals[c]? = some u → w.cell? ⟨(ad.add (j * 7)).block, (ad.add (j * 7)).off + c, none⟩ = some u)
theorem OpsAt.below {w W : World} {A : Option Addr} {n : Nat} {ops : List S46} (h : OpsAt w A n ops) (hb : Below w.heap.size w W) : OpsAt W A n ops := by
  refine ⟨h.1, fun hn => ?_⟩
  obtain ⟨ad, e, hc⟩ := h.2 hn
  exact ⟨ad, e, fun j x hj => ⟨pw_cell_below hb (hc j x hj).1, fun c u h0 hu => pw_cell_below hb ((hc j x hj).2 c u h0 hu)⟩⟩
end Go.Proofs.Ytjabcdfbncglnaa
namespace Go.Proofs.Ytjabcdfbncglnaa.Opn
open Go.ChangeShapes Go.WideShapes Go.ChangeAt Go.RowKit Go.Deep Go.Proofs.YtjabcdfbncglnaaW.PrintWords
set_option linter.unusedVariables false
set_option linter.unusedSimpArgs false

section
variable {H : Type} {enc : TypeId × Value → H} {P : Program} {w : World} {base : Nat} {spare : Nat → Bool} {held : Bool}
theorem open_slice_fields {t e : TypeId} {fs : Array Field} {fuel : Nat} {cs : List Value} {x : DataW H × List MemPlace} (ht : P.underlying t = some (.slice e)) (he : P.underlying e = some (.struct fs))
    (hone : oneCellFields P fs = true) (hC : P.cellsOf e = fs.size) (h : DataW.trod enc P w base spare held fuel t cs = some x) :
    (cs = [.slice none 0 0] ∧ x = (.nil, [])) ∨
    ∃ (a : Addr) (len cap m : Nat) (D : Nat → DataW H) (Pl : Nat → List MemPlace), cs = [.slice (some a) len cap] ∧ base ≤ a.block ∧ len ≤ cap ∧ cap ≤ maxLen ∧ m = (if spare a.block then cap else len) ∧
      x = (.slice ((List.range len).map D) ((List.range (m - len)).map fun j => D (len + j)), MemPlace.row a (m * fs.size) ++ (List.range m).flatMap Pl) ∧
      ∀ i, i < m → ∃ (ys : List (DataW H × List MemPlace)) (n : Nat), D i = .agg (ys.map (·.1)) ∧ Pl i = ys.flatMap (·.2) ∧ ys.length = fs.size ∧
        ∀ (j : Nat) (f : Field), fs[j]? = some f → ∃ (v : Value) (y : DataW H × List MemPlace), w.cell? (a.add (i * fs.size + j)) = some v ∧ ys[j]? = some y ∧ DataW.trod enc P w base spare held n f.type [v] = some y := by
  rcases open_slice ht h with h0 | ⟨a, len, cap, m, n, D, Pl, hcs, hb, hl, hm, hmm, hx, hi⟩
  · exact .inl h0
  · refine .inr ⟨a, len, cap, m, D, Pl, hcs, hb, hl, hm, hmm, by rw [hC] at hx; exact hx, fun i him => ?_⟩
    obtain ⟨cs', hc, ht'⟩ := hi i him
    rw [hC] at hc
    obtain ⟨ys, n', hn', hy, hlen, hyl, hf⟩ := DataW.trod_struct he ht'
    obtain ⟨_, hcl, hat⟩ := World.cells?_some hc
    simp only [Prod.mk.injEq] at hy
    refine ⟨ys, n', hy.1, hy.2, hyl, fun j f hj => ?_⟩
    obtain ⟨ho, hk⟩ := hone_of hone j f hj
    have hjl : j < fs.size := (Array.getElem?_eq_some_iff.1 hj).1
    have hcell := hat j hjl
    have hv : cs'[j]? = some (cs'[j]'(by omega)) := List.getElem?_eq_getElem (by omega)
    have h1 := hf j f hj
    rw [ho, hk] at h1
    have hone' : (cs'.drop j).take 1 = [cs'[j]'(by omega)] := by
      rw [List.drop_eq_getElem_cons (by omega)]
      rfl
    rw [hone'] at h1
    have hys : ys[j]? = some (ys[j]'(by omega)) := List.getElem?_eq_getElem (by omega)
    refine ⟨_, _, ?_, hys, h1.trans hys⟩
    rw [← Go.Deep.add_add, hcell, hv]
end

theorem bulk_mem {H : Type} {d : DataW H} {parts : List (DataW H)} (h : d ∈ parts) : Rows.uptoBulk d ≤ Rows.uptoBulk (.agg parts) := by
  have := bulk_part h
  simp only [Rows.uptoBulk]
  omega

/-- One operation, as it is read. -/
theorem op_read {H : Type} {enc : TypeId × Value → H} {W : World} {base : Nat} {sp : Nat → Bool} {held : Bool} {a : Addr} {fs : Array Field} (i : Nat) {D : DataW H} {ys : List (DataW H × List MemPlace)} {n : Nat} (hfs : fs.size = 7)
    (h0 : ∃ f, fs[0]? = some f ∧ Try.prog.underlying f.type = some (.int .i64)) (h1 : ∃ f, fs[1]? = some f ∧ Try.prog.underlying f.type = some .bool) (h2 : ∃ f, fs[2]? = some f ∧ Try.prog.underlying f.type = some .string) (h3 : ∃ f, fs[3]? = some f ∧ Try.prog.underlying f.type = some .string)
    (h4 : ∃ f, fs[4]? = some f ∧ Try.prog.underlying f.type = some (.int .i64)) (h5 : ∃ f, fs[5]? = some f ∧ Try.prog.underlying f.type = some (.int .i64)) (h6 : ∃ f, fs[6]? = some f ∧ Try.prog.underlying f.type = some .bool)
    (hD : D = .agg (ys.map (·.1))) (hf : ∀ (j : Nat) (f : Field), fs[j]? = some f → ∃ (v : Value) (y : DataW H × List MemPlace), W.cell? (a.add (i * fs.size + j)) = some v ∧ ys[j]? = some y ∧ DataW.trod enc Try.prog W base sp held n f.type [v] = some y) :
    ∃ x : S46, (W.cell? (a.add (i * 7)) = some (.int .i64 x.kd) ∧ ∀ (c : Nat) (u : Value), 0 < c → x.vals[c]? = some u → W.cell? ⟨(a.add (i * 7)).block, (a.add (i * 7)).off + c, none⟩ = some u) ∧ x.k.size ≤ Rows.uptoBulk D ∧ x.k2.size ≤ Rows.uptoBulk D := by
  obtain ⟨f0, e0, t0⟩ := h0
  obtain ⟨f1, e1, t1⟩ := h1
  obtain ⟨f2, e2, t2⟩ := h2
  obtain ⟨f3, e3, t3⟩ := h3
  obtain ⟨f4, e4, t4⟩ := h4
  obtain ⟨f5, e5, t5⟩ := h5
  obtain ⟨f6, e6, t6⟩ := h6
  obtain ⟨v0, y0, c0, m0, r0⟩ := hf 0 f0 e0
  obtain ⟨v1, y1, c1, m1, r1⟩ := hf 1 f1 e1
  obtain ⟨v2, y2, c2, m2, r2⟩ := hf 2 f2 e2
  obtain ⟨v3, y3, c3, m3, r3⟩ := hf 3 f3 e3
  obtain ⟨v4, y4, c4, m4, r4⟩ := hf 4 f4 e4
  obtain ⟨v5, y5, c5, m5, r5⟩ := hf 5 f5 e5
  obtain ⟨v6, y6, c6, m6, r6⟩ := hf 6 f6 e6
  obtain ⟨x0, q0, _, _⟩ := DataW.trod_int t0 r0
  obtain ⟨x1, q1, _⟩ := DataW.trod_bool t1 r1
  obtain ⟨x2, q2, z2, _⟩ := DataW.trod_string t2 r2
  obtain ⟨x3, q3, z3, _⟩ := DataW.trod_string t3 r3
  obtain ⟨x4, q4, _, _⟩ := DataW.trod_int t4 r4
  obtain ⟨x5, q5, _, _⟩ := DataW.trod_int t5 r5
  obtain ⟨x6, q6, _⟩ := DataW.trod_bool t6 r6
  simp only [List.cons.injEq, and_true] at q0 q1 q2 q3 q4 q5 q6
  subst q0 q1 q2 q3 q4 q5 q6
  rw [hfs] at c0 c1 c2 c3 c4 c5 c6
  rw [add_field _ _ _ (by omega)] at c1 c2 c3 c4 c5 c6
  have bk : ∀ (s : ByteArray) (y : DataW H × List MemPlace) (j : Nat), ys[j]? = some y → y = (.lit (.string s.data.toList), []) → s.size ≤ Rows.uptoBulk D := fun s y j hm hy => by
    subst hy
    have h1 : (DataW.lit (.string s.data.toList) : DataW H) ∈ ys.map (·.1) := List.mem_map.2 ⟨_, List.mem_of_getElem? hm, rfl⟩
    have h2 := bulk_mem h1
    have h3 : s.data.toList.length = s.size := by rw [Array.length_toList]; rfl
    rw [hD]
    simp only [Rows.uptoBulk] at h2 ⊢
    omega
  refine ⟨⟨x0, x1, x2, x3, x4, x5, x6⟩, ⟨c0, fun c u hc hu => ?_⟩, bk x2 y2 2 m2 z2, bk x3 y3 3 m3 z3⟩
  match c, hc, hu with
  | 1, _, hu => cases hu; exact c1
  | 2, _, hu => cases hu; exact c2
  | 3, _, hu => cases hu; exact c3
  | 4, _, hu => cases hu; exact c4
  | 5, _, hu => cases hu; exact c5
  | 6, _, hu => cases hu; exact c6
  | c + 7, _, hu => simp [S46.vals] at hu

/-- A script, as it is read. -/
theorem ops_read {H : Type} {enc : TypeId × Value → H} {W : World} {base : Nat} {sp : Nat → Bool} {held : Bool} {A : Option Addr} {len cap : Nat} {d : DataW H} {ps : List MemPlace}
    (h : DataW.Trod enc Try.prog W base sp held 48 (.slice A len cap) d ps) : ∃ ops : List S46, len = ops.length ∧ ops.length ≤ cap ∧ OpsAt W A ops.length ops ∧ ops.length ≤ Rows.uptoBulk d ∧ ∀ x ∈ ops, x.k.size ≤ Rows.uptoBulk d ∧ x.k2.size ≤ Rows.uptoBulk d := by
  obtain ⟨fuel, hf⟩ := h
  rcases open_slice_fields Try.underlying48 Try.underlying46 (by kernel_rfl) (by kernel_rfl) hf with ⟨hcs, hx⟩ | ⟨a, l, c, m, D, Pl, hcs, _, hl, hm, hmm, hx, hi⟩
  · simp [Value.cells] at hcs
    obtain ⟨rfl, rfl, rfl⟩ := hcs
    exact ⟨[], rfl, Nat.le_refl _, ⟨rfl, fun h => absurd h (Nat.lt_irrefl 0)⟩, Nat.zero_le _, fun k hk => by cases hk⟩
  · simp [Value.cells] at hcs
    obtain ⟨rfl, rfl, rfl⟩ := hcs
    have hle : len ≤ m := by rw [hmm]; split <;> omega
    simp only [Prod.mk.injEq] at hx
    obtain ⟨rfl, _⟩ := hx
    have hD : ∀ i, i < len → Rows.uptoBulk (D i) ≤ Rows.uptoBulk (.slice ((List.range len).map D) ((List.range (m - len)).map fun j => D (len + j)) : DataW H) := fun i hi => by
      have := bulk_part (List.mem_map.2 ⟨i, List.mem_range.2 hi, rfl⟩ : D i ∈ (List.range len).map D)
      simp only [Rows.uptoBulk]
      omega
    have hex : ∀ i, ∃ x : S46, i < len → (W.cell? (a.add (i * 7)) = some (.int .i64 x.kd) ∧ ∀ (c : Nat) (u : Value), 0 < c → x.vals[c]? = some u → W.cell? ⟨(a.add (i * 7)).block, (a.add (i * 7)).off + c, none⟩ = some u) ∧ x.k.size ≤ Rows.uptoBulk (D i) ∧ x.k2.size ≤ Rows.uptoBulk (D i) := fun i => by
      by_cases hil : i < len
      · obtain ⟨ys, n, hDi, _, _, hfi⟩ := hi i (by omega)
        obtain ⟨x, hx⟩ := op_read i (by kernel_rfl) ⟨_, rfl, by kernel_rfl⟩ ⟨_, rfl, by kernel_rfl⟩ ⟨_, rfl, by kernel_rfl⟩ ⟨_, rfl, by kernel_rfl⟩ ⟨_, rfl, by kernel_rfl⟩ ⟨_, rfl, by kernel_rfl⟩ ⟨_, rfl, by kernel_rfl⟩ hDi hfi
        exact ⟨x, fun _ => hx⟩
      · exact ⟨⟨0, false, ⟨#[]⟩, ⟨#[]⟩, 0, 0, false⟩, fun h => absurd h hil⟩
    obtain ⟨f, hf⟩ := Classical.axiomOfChoice hex
    have hlen : ((List.range len).map f).length = len := by rw [List.length_map, List.length_range]
    refine ⟨(List.range len).map f, hlen.symm, by omega, ⟨rfl, fun _ => ⟨a, rfl, fun j x hj => ?_⟩⟩, ?_, ?_⟩
    · have hjl : j < len := by rw [← hlen]; exact (List.getElem?_eq_some_iff.1 hj).1
      rw [List.getElem?_map, List.getElem?_range hjl] at hj
      cases hj
      exact (hf j hjl).1
    · have := bulk_slice (H := H) ((List.range len).map D) ((List.range (m - len)).map fun j => D (len + j))
      rw [List.length_map, List.length_range] at this
      omega
    · intro x hx
      obtain ⟨j, hj, rfl⟩ := List.mem_map.1 hx
      have hjl := List.mem_range.1 hj
      have h1 := hD j hjl
      have h2 := (hf j hjl).2
      exact ⟨Nat.le_trans h2.1 h1, Nat.le_trans h2.2 h1⟩
end Go.Proofs.Ytjabcdfbncglnaa.Opn
namespace Go.Proofs.Ytjabcdfbncglnaa.PTreeRanks
open Go.RowKit Go.Proofs.YtjabcdfbncglnaaW.PrintWords Go.Proofs.YtjabcdfbncglnaaW.PrintLast Go.Proofs.YtjabcdfbncglnaaW.PrintMore
set_option linter.unusedVariables false
set_option linter.unusedSimpArgs false
set_option maxHeartbeats 8000000 in
set_option maxRecDepth 100000 in
theorem keystoneref05_Delete.callsC (k : Nat) (A0 : Option Addr) (c0 : Nat) (l0 : List (S59)) (a1 : ByteArray) (r : List (S59)) (w : World) (hr0 : Kd.C k59 w A0 l0.length l0) (hc0 : l0.length ≤ c0) (h : keystoneref05_Delete.f k l0 a1 = some r) :
    Calls Try.prog 44 #[.slice A0 l0.length c0, .string a1] w fun e w' => ∃ v0_ : Value, e = .returned (v0_) ∧ (Kd.R k59 59 w' w.heap.size (fun _ => True) v0_ r ∨ (v0_ = .slice A0 l0.length c0 ∧ r = l0)) ∧ Below w.heap.size w w' := by
  have hu59 := Try.underlying59
  have HR0 := Aside0.mk hr0
  have HC0 := Aside0.mk hc0
  clear hr0 hc0
  have HB := Aside0.mk (Below.refl w.heap.size w)
  have H : ((keystoneref05_Has.f k l0 a1).bind fun t211 => (if t211 = true then ((keystoneref05_Rank.f k l0 a1).bind fun t212 => (if 0 ≤ t212 then (if t212 ≤ (l0.length : Int) then ((some (l0.take (t212 : Int).toNat : List (S59))).bind fun y213 => (if ([] : List (S59)).length + y213.length < 5864062014805 then ((some (([] : List (S59)) ++ y213 : List (S59))).bind fun y217 => (if 0 ≤ (wrap64 (t212 + 1)) then (if (wrap64 (t212 + 1)) ≤ (l0.length : Int) then ((some (l0.drop ((wrap64 (t212 + 1)) : Int).toNat : List (S59))).bind fun y220 => (if y217.length + y220.length < 5864062014805 then (some (y217 ++ y220)) else (none))) else (none)) else (none))) else (none))) else (none)) else (none))) else (some l0))) = some r := h
  clear h
  replace H := Option.bind_eq_some_iff.mp H
  obtain ⟨t211, A30, H⟩ := H
  replace H : (if t211 = true then ((keystoneref05_Rank.f k l0 a1).bind fun t212 => (if 0 ≤ t212 then (if t212 ≤ (l0.length : Int) then ((some (l0.take (t212 : Int).toNat : List (S59))).bind fun y213 => (if ([] : List (S59)).length + y213.length < 5864062014805 then ((some (([] : List (S59)) ++ y213 : List (S59))).bind fun y217 => (if 0 ≤ (wrap64 (t212 + 1)) then (if (wrap64 (t212 + 1)) ≤ (l0.length : Int) then ((some (l0.drop ((wrap64 (t212 + 1)) : Int).toNat : List (S59))).bind fun y220 => (if y217.length + y220.length < 5864062014805 then (some (y217 ++ y220)) else (none))) else (none)) else (none))) else (none))) else (none)) else (none))) else (some l0)) = some r := H
  have A3 := Aside0.mk A30
  clear A30
  by_cases c4 : t211 = true
  · subst c4
    have H1 : ((keystoneref05_Rank.f k l0 a1).bind fun t212 => (if 0 ≤ t212 then (if t212 ≤ (l0.length : Int) then ((some (l0.take (t212 : Int).toNat : List (S59))).bind fun y213 => (if ([] : List (S59)).length + y213.length < 5864062014805 then ((some (([] : List (S59)) ++ y213 : List (S59))).bind fun y217 => (if 0 ≤ (wrap64 (t212 + 1)) then (if (wrap64 (t212 + 1)) ≤ (l0.length : Int) then ((some (l0.drop ((wrap64 (t212 + 1)) : Int).toNat : List (S59))).bind fun y220 => (if y217.length + y220.length < 5864062014805 then (some (y217 ++ y220)) else (none))) else (none)) else (none))) else (none))) else (none)) else (none))) = some r := by rw [if_pos rfl] at H; exact H
    clear H
    have H := H1
    clear H1
    replace H := Option.bind_eq_some_iff.mp H
    obtain ⟨t212, A50, H⟩ := H
    replace H : (if 0 ≤ t212 then (if t212 ≤ (l0.length : Int) then ((some (l0.take (t212 : Int).toNat : List (S59))).bind fun y213 => (if ([] : List (S59)).length + y213.length < 5864062014805 then ((some (([] : List (S59)) ++ y213 : List (S59))).bind fun y217 => (if 0 ≤ (wrap64 (t212 + 1)) then (if (wrap64 (t212 + 1)) ≤ (l0.length : Int) then ((some (l0.drop ((wrap64 (t212 + 1)) : Int).toNat : List (S59))).bind fun y220 => (if y217.length + y220.length < 5864062014805 then (some (y217 ++ y220)) else (none))) else (none)) else (none))) else (none))) else (none)) else (none)) = some r := H
    have A5 := Aside0.mk A50
    clear A50
    by_cases c6 : 0 ≤ t212
    · rw [if_pos c6] at H
      have c6b0 := eq_true c6
      have c6b1 : decide (0 ≤ t212) = true := decide_eq_true c6
      clear c6
      by_cases c7 : t212 ≤ (l0.length : Int)
      · rw [if_pos c7] at H
        have c7b0 := eq_true c7
        have c7b1 : decide (t212 ≤ (l0.length : Int)) = true := decide_eq_true c7
        clear c7
        obtain ⟨y213, hy213⟩ : ∃ y_ : List (S59), y_ = (l0.take (t212 : Int).toNat) := ⟨_, rfl⟩
        replace H : (if ([] : List (S59)).length + y213.length < 5864062014805 then ((some (([] : List (S59)) ++ y213 : List (S59))).bind fun y217 => (if 0 ≤ (wrap64 (t212 + 1)) then (if (wrap64 (t212 + 1)) ≤ (l0.length : Int) then ((some (l0.drop ((wrap64 (t212 + 1)) : Int).toNat : List (S59))).bind fun y220 => (if y217.length + y220.length < 5864062014805 then (some (y217 ++ y220)) else (none))) else (none)) else (none))) else (none)) = some r := by first | (rw [hy213]; with_reducible exact H) | (have H2_ := (Option.bind_some _ _).symm.trans H; rw [hy213]; with_reducible exact H2_) | (have H2_ := (Option.bind_some _ _).symm.trans H; with_reducible exact H2_) | with_reducible exact H | (rw [hy213]; exact H) | exact H
        have Ny213 := Aside0.mk hy213
        clear hy213
        by_cases c8 : ([] : List (S59)).length + y213.length < 5864062014805
        · rw [if_pos c8] at H
          have LMc8 := Aside0.mk c8
          clear c8
          obtain ⟨y217, hy217⟩ : ∃ y_ : List (S59), y_ = (([] : List (S59)) ++ y213) := ⟨_, rfl⟩
          replace H : (if 0 ≤ (wrap64 (t212 + 1)) then (if (wrap64 (t212 + 1)) ≤ (l0.length : Int) then ((some (l0.drop ((wrap64 (t212 + 1)) : Int).toNat : List (S59))).bind fun y220 => (if y217.length + y220.length < 5864062014805 then (some (y217 ++ y220)) else (none))) else (none)) else (none)) = some r := by first | (rw [hy217]; with_reducible exact H) | (have H2_ := (Option.bind_some _ _).symm.trans H; rw [hy217]; with_reducible exact H2_) | (have H2_ := (Option.bind_some _ _).symm.trans H; with_reducible exact H2_) | with_reducible exact H | (rw [hy217]; exact H) | exact H
          have Ny217 := Aside0.mk hy217
          clear hy217
          obtain ⟨ji9, hji9⟩ : ∃ j_ : Int, (wrap64 (t212 + 1)) = j_ := ⟨_, rfl⟩
          replace H : (if 0 ≤ (ji9) then (if (ji9) ≤ (l0.length : Int) then ((some (l0.drop ((ji9) : Int).toNat : List (S59))).bind fun y220 => (if y217.length + y220.length < 5864062014805 then (some (y217 ++ y220)) else (none))) else (none)) else (none)) = some r := by first | (rw [hji9] at H; exact H) | (simp only [hji9] at H ⊢; exact H)
          (try rw [hji9] at A3)
          (try rw [hji9] at A5)
          have hji9w : (IntKind.i64.wrap (t212 + 1)) = ji9 := (i64_w _).trans hji9
          by_cases c10 : 0 ≤ (ji9)
          · rw [if_pos c10] at H
            have c10b0 := eq_true c10
            have c10b1 : decide (0 ≤ (ji9)) = true := decide_eq_true c10
            clear c10
            by_cases c11 : (ji9) ≤ (l0.length : Int)
            · rw [if_pos c11] at H
              have c11b0 := eq_true c11
              have c11b1 : decide ((ji9) ≤ (l0.length : Int)) = true := decide_eq_true c11
              clear c11
              obtain ⟨y220, hy220⟩ : ∃ y_ : List (S59), y_ = (l0.drop ((ji9) : Int).toNat) := ⟨_, rfl⟩
              replace H : (if y217.length + y220.length < 5864062014805 then (some (y217 ++ y220)) else (none)) = some r := by first | (rw [hy220]; with_reducible exact H) | (have H2_ := (Option.bind_some _ _).symm.trans H; rw [hy220]; with_reducible exact H2_) | (have H2_ := (Option.bind_some _ _).symm.trans H; with_reducible exact H2_) | with_reducible exact H | (rw [hy220]; exact H) | exact H
              have Ny220 := Aside0.mk hy220
              clear hy220
              by_cases c12 : y217.length + y220.length < 5864062014805
              · rw [if_pos c12] at H
                have LMc12 := Aside0.mk c12
                clear c12
                obtain ⟨y224, hy224⟩ : ∃ y_ : List (S59), y_ = (y217 ++ y220) := ⟨_, rfl⟩
                replace H : (some y224) = some r := by first | (rw [hy224]; with_reducible exact H) | (have H2_ := (Option.bind_some _ _).symm.trans H; rw [hy224]; with_reducible exact H2_) | (have H2_ := (Option.bind_some _ _).symm.trans H; with_reducible exact H2_) | with_reducible exact H | (rw [hy224]; exact H) | exact H
                have Ny224 := Aside0.mk hy224
                clear hy224
                obtain rfl := Option.some.inj H
                go_enter Try.func44, Try.ntmps44
                go_wp2_with (first | ((with_reducible refine gate_callee (f := 26) rfl ?_); refine goesL_ (some 9) rfl rfl Try.func26 (by kernel_rfl) rfl #[.slice A0 l0.length c0, .string a1] rfl (by (try simp only [List.map_toArray, List.map_cons, List.map_nil]); first | done | rfl | (simp only [List.length_drop, List.length_take]; rfl)) ?_; (with_reducible refine (keystoneref05_Has.calls k _ _ l0 a1 true _ ?side1 ?side2 A3.out).mono ?_); (case side1 => repeat (first | exact HR0.out | (with_reducible refine Kd.C_alloc ?_ _) | (with_reducible refine Kd.C_drewN ?_ _) | (with_reducible refine Kd.C_drew ?_))); (case side2 => exact HC0.out); rintro e w' ⟨rfl, ⟨nd, rfl⟩⟩; refine ⟨_, rfl, ?_⟩) | ((with_reducible refine gate_callee (f := 41) rfl ?_); refine goesL_ (some 14) rfl rfl Try.func41 (by kernel_rfl) rfl #[.slice A0 l0.length c0, .string a1] rfl (by (try simp only [List.map_toArray, List.map_cons, List.map_nil]); first | done | rfl | (simp only [List.length_drop, List.length_take]; rfl)) ?_; (with_reducible refine (keystoneref05_Rank.calls k _ _ l0 a1 t212 _ ?side1 ?side2 A5.out).mono ?_); (case side1 => repeat (first | exact HR0.out | (with_reducible refine Kd.C_alloc ?_ _) | (with_reducible refine Kd.C_drewN ?_ _) | (with_reducible refine Kd.C_drew ?_))); (case side2 => exact HC0.out); rintro e w' ⟨rfl, ⟨nd, rfl⟩⟩; refine ⟨_, rfl, ?_⟩; have q14 : (t212 : Int) ≤ ((l0.length : Int) : Int) := of_decide_eq_true (by first | (with_reducible assumption) | assumption); obtain ⟨i014, hi014, _, hsz14, _⟩ := info_parts info59; have hroom14 : l0.length ≤ c0 := HC0.out; have hC14 : Kd.C k59 _ A0 l0.length l0 := HR0.out; have hcut14 := cut_to (P := Try.prog) 25 59 .i64 Try.underlying25 hi014 A0 l0.length c0 t212 (of_decide_eq_true (by first | (with_reducible assumption) | assumption)) q14 hroom14; have hr14 := Kd.C_take (m := (t212 : Int).toNat) hC14 (by omega); have hy14 : y213.length = (t212 : Int).toNat := (by rw [Ny213.out, List.length_take]; omega); rw [← Ny213.out] at hr14; rw [← hy14] at hcut14; have HR216 := Aside0.mk hr14; have HC216 := Aside0.mk (show y213.length ≤ c0 from by omega); clear hr14 hC14 hroom14 hi014 hsz14; have KY14 := Aside0.mk hy14; clear hy14; have KL14 := Aside0.mk (show (t212 : Int).toNat ≤ l0.length from by omega); replace q14 := eq_true q14) | ((with_reducible refine gate_builtin (b := .append) (xs := #[.tmp 15, .tmp 18]) rfl ?_); at_builtin; refine Kd.R_append_rows k59 (w0 := w) w.heap.size rfl (.tmp 15) (.tmp 18) 25 59 (.agg #[(.string ⟨#[]⟩), (.int .i64 0)]) 24 rfl Try.underlying25 info59 rfl (by decide) (by omega) (.slice none 0 0) ([] : List (S59)) y213 _ _ _ (fun _ => True) (fun _ => False) rfl rfl ?aO ?aR (fun _ _ h => h) (fun _ h => h.elim) ?aF ?aB ?aS ?aL ?_; (case aR => repeat (first | exact HR216.out | (with_reducible refine Kd.C_alloc ?_ _) | (with_reducible refine Kd.C_drewN ?_ _) | (with_reducible refine Kd.C_drew ?_))); (case aB => exact (by repeat (first | (with_reducible first | exact HB.out | apply below_alloc | apply pw_below_drewN | apply below_drew1) | exact HB.out))); (case aF => exact (fun _ _ => trivial)); (case aO => exact (Kd.R_nil _ _ _ _ (fun _ => True))); (case aS => exact (below_size (by repeat (first | (with_reducible first | exact HB.out | apply below_alloc | apply pw_below_drewN | apply below_drew1) | exact HB.out)))); (case aL => have := LMc8.out; omega); intro v218 w15 ho hb hg hat; rw [← Ny217.out] at ho; have n0_ := Aside0.mk (hb); have n1_ := Aside0.mk (ho); clear HB; have HB := n0_; have HO219 := n1_; clear n0_ n1_; clear ho hb hg hat; have q16 : ((ji9) : Int) ≤ ((l0.length : Int) : Int) := of_decide_eq_true (by first | (with_reducible assumption) | assumption); obtain ⟨i016, hi016, _, hsz16, _⟩ := info_parts info59; have hroom16 : l0.length ≤ c0 := HC0.out; have hC16 : Kd.C k59 _ A0 l0.length l0 := HR0.out; have q016 : (0 : Int) ≤ ((ji9) : Int) := of_decide_eq_true (by first | (with_reducible assumption) | assumption); have hcut16 := cut_from (P := Try.prog) 25 59 .i64 Try.underlying25 hi016 2 hsz16 A0 l0.length c0 (ji9) q016 q16; have hr16 := Kd.C_drop (m := ((ji9) : Int).toNat) (c := c0) hC16 (by omega) hroom16; obtain ⟨A16, hA16⟩ : ∃ A1, A1 = (if c0 = ((ji9) : Int).toNat then A0 else (A0 : Option Addr).map (·.add (((ji9) : Int).toNat * 2))) := ⟨_, rfl⟩; obtain ⟨c16, hc16⟩ : ∃ c1, c1 = c0 - ((ji9) : Int).toNat := ⟨_, rfl⟩; have hy16 : y220.length = l0.length - ((ji9) : Int).toNat := (by rw [Ny220.out, List.length_drop] <;> omega); rw [show (l0).drop ((ji9) : Int).toNat = y220 from Ny220.out.symm] at hr16; replace hr16 : Kd.C k59 _ A16 y220.length y220 := (by rw [hA16]; exact hr16); rw [← hy16, ← hA16, ← hc16] at hcut16; have HR223 := Aside0.mk hr16; have HC223 := Aside0.mk (show y220.length ≤ c16 from by rw [hy16, hc16]; exact Nat.sub_le_sub_right hroom16 _); clear hr16 hC16 hroom16 hi016 hsz16 hc16; have KY16 := Aside0.mk hy16; have KA16 := Aside0.mk hA16; clear hy16 hA16; have KL16 := Aside0.mk (show ((ji9) : Int).toNat ≤ l0.length from by omega); replace q16 := eq_true q16) | ((with_reducible refine gate_builtin (b := .append) (xs := #[.tmp 20, .tmp 24]) rfl ?_); at_builtin; refine Kd.R_append_rows k59 (w0 := w) w.heap.size rfl (.tmp 20) (.tmp 24) 25 59 (.agg #[(.string ⟨#[]⟩), (.int .i64 0)]) 24 rfl Try.underlying25 info59 rfl (by decide) (by omega) v218 y217 y220 _ _ _ (fun _ => True) (fun _ => False) rfl rfl ?aO ?aR (fun _ _ h => h) (fun _ h => h.elim) ?aF ?aB ?aS ?aL ?_; (case aR => repeat (first | exact (Kd.C_below HR223.out (by repeat (first | (with_reducible first | exact HB.out | apply below_alloc | apply pw_below_drewN | apply below_drew1) | exact HB.out))) | (with_reducible refine Kd.C_alloc ?_ _) | (with_reducible refine Kd.C_drewN ?_ _) | (with_reducible refine Kd.C_drew ?_))); (case aB => exact (by repeat (first | (with_reducible first | exact HB.out | apply below_alloc | apply pw_below_drewN | apply below_drew1) | exact HB.out))); (case aF => exact (fun _ _ => trivial)); (case aO => exact (by (with_reducible repeat (first | apply Kd.R_alloc | apply Kd.R_drewN | apply Kd.R_drew)); exact HO219.out)); (case aS => exact (below_size (by repeat (first | (with_reducible first | exact HB.out | apply below_alloc | apply pw_below_drewN | apply below_drew1) | exact HB.out)))); (case aL => have := LMc12.out; omega); intro v225 w17 ho hb hg hat; rw [← Ny224.out] at ho; have n0_ := Aside0.mk (hb); have n1_ := Aside0.mk (ho); clear HB; clear HO219; have HB := n0_; have HO226 := n1_; clear n0_ n1_; clear ho hb hg hat))
                go_ret
                exact ⟨_, by first | rfl | (simp [errW_none, errW_some] <;> rfl) | (simp only [← hji9]; first | rfl | (simp [errW_none, errW_some] <;> rfl)) | (simp [*, errW_none, errW_some] <;> rfl), .inl (by (with_reducible repeat (first | apply Kd.R_alloc | apply Kd.R_drewN | apply Kd.R_drew)); exact HO226.out), (by repeat (first | (with_reducible first | exact HB.out | apply below_alloc | apply pw_below_drewN | apply below_drew1) | exact HB.out))⟩
              · rw [if_neg c12] at H
                exact absurd H (by simp)
            · rw [if_neg c11] at H
              exact absurd H (by simp)
          · rw [if_neg c10] at H
            exact absurd H (by simp)
        · rw [if_neg c8] at H
          exact absurd H (by simp)
      · rw [if_neg c7] at H
        exact absurd H (by simp)
    · rw [if_neg c6] at H
      exact absurd H (by simp)
  · replace c4 := Bool.eq_false_iff.mpr c4
    subst c4
    have H1 : (some l0) = some r := by rw [if_neg (show ¬ (false = true) by decide)] at H; exact H
    clear H
    have H := H1
    clear H1
    obtain rfl := Option.some.inj H
    go_enter Try.func44, Try.ntmps44
    go_wp2_with (first | ((with_reducible refine gate_callee (f := 26) rfl ?_); refine goesL_ (some 9) rfl rfl Try.func26 (by kernel_rfl) rfl #[.slice A0 l0.length c0, .string a1] rfl (by (try simp only [List.map_toArray, List.map_cons, List.map_nil]); first | done | rfl | (simp only [List.length_drop, List.length_take]; rfl)) ?_; (with_reducible refine (keystoneref05_Has.calls k _ _ l0 a1 false _ ?side1 ?side2 A3.out).mono ?_); (case side1 => repeat (first | exact HR0.out | (with_reducible refine Kd.C_alloc ?_ _) | (with_reducible refine Kd.C_drewN ?_ _) | (with_reducible refine Kd.C_drew ?_))); (case side2 => exact HC0.out); rintro e w' ⟨rfl, ⟨nd, rfl⟩⟩; refine ⟨_, rfl, ?_⟩))
    go_ret
    exact ⟨_, by first | rfl | (simp [errW_none, errW_some] <;> rfl) | (simp [*, errW_none, errW_some] <;> rfl), (by first | exact .inr rfl | exact .inr ⟨rfl, rfl⟩), (by repeat (first | (with_reducible first | exact HB.out | apply below_alloc | apply pw_below_drewN | apply below_drew1) | exact HB.out))⟩
end Go.Proofs.Ytjabcdfbncglnaa.PTreeRanks
namespace Go.Proofs.Ytjabcdfbncglnaa
open Go.RowKit Go.Proofs.YtjabcdfbncglnaaW.PrintWords Go.Proofs.YtjabcdfbncglnaaW.PrintLast Go.Proofs.YtjabcdfbncglnaaW.PrintMore
open PTreeRanks (S59 k59 z59)
set_option linter.unusedVariables false
set_option linter.unusedSimpArgs false

/-- Two blocks may have been written. -/
structure Two (a b : Nat) (w w' : World) : Prop where
  os : w'.os = w.os
  tape : w'.tape = w.tape
  output : w'.output = w.output
  size : w.heap.size ≤ w'.heap.size
  block : ∀ k, k < w.heap.size → k ≠ a → k ≠ b → w'.heap[k]? = w.heap[k]?
theorem Two.refl (a b : Nat) (w : World) : Two a b w w := ⟨rfl, rfl, rfl, Nat.le_refl _, fun _ _ _ _ => rfl⟩
theorem Two.trans {a b : Nat} {w w1 w2 : World} (h : Two a b w w1) (k : Two a b w1 w2) : Two a b w w2 :=
  ⟨k.os.trans h.os, k.tape.trans h.tape, k.output.trans h.output, Nat.le_trans h.size k.size, fun i hi ha hb => (k.block i (Nat.lt_of_lt_of_le hi h.size) ha hb).trans (h.block i hi ha hb)⟩
theorem Two.of_below {a b : Nat} {w w' : World} (h : Below w.heap.size w w') : Two a b w w' := ⟨h.os, h.tape, h.output, h.size, fun i hi _ _ => h.block i hi⟩
theorem Two.of_fst {a b : Nat} {w w' : World} (h : w.grownBy w' (some a)) : Two a b w w' := ⟨h.os, h.tape, h.output, h.size, fun i hi ha _ => h.block i hi (fun e => ha (by injection e))⟩
theorem Two.of_snd {a b : Nat} {w w' : World} (h : w.grownBy w' (some b)) : Two a b w w' := ⟨h.os, h.tape, h.output, h.size, fun i hi _ hb => h.block i hi (fun e => hb (by injection e))⟩

def chL (l : List S59) (kd : Int) (k : ByteArray) (x : Int) : List S59 := if kd = 0 then insL l k x else delL l k

/-- What changes leaves. -/
def ChPost (order : Nat) (l' : List S59) (ok okr : Nat → Prop) (bt s o : Nat) (cur : Array Value) (e9 : TypeId) (w : World) (e : Ending) (w' : World) : Prop :=
  e = .returned (.bool true) ∧ ∃ lv', w'.heap[s]? = some (.cells (cur.setIfInBounds (o + 1) lv') e9 (0, 0)) ∧ TG order l' ok bt w' ∧ k59.R 59 w' 0 okr lv' l' ∧ Two s bt w w'

/-- The list's struct has been written. -/
structure Stored (order : Nat) (l l' : List S59) (ok okr : Nat → Prop) (bt s o : Nat) (cur : Array Value) (e9 : TypeId) (v3 : Value) (w w4 : World) : Prop where
  blk : w4.heap[s]? = some (.cells (cur.setIfInBounds (o + 1) v3) e9 (0, 0))
  tree : TG order l ok bt w4
  row : k59.R 59 w4 0 okr v3 l'
  two : Two s bt w w4
theorem ch_store {order bt s o : Nat} {ok okr : Nat → Prop} {l l' : List S59} {v3 : Value} {cur : Array Value} {e9 : TypeId} {w w3 : World} (hT : TG order l ok bt w) (hs : ¬ ok s) (hsb : s ≠ bt) (hh : w.heap[s]? = some (.cells cur e9 (0, 0)))
    (hB : Below w.heap.size w w3) (hR : k59.R 59 w3 0 okr v3 l') (hsr : ¬ okr s) : Stored order l l' ok okr bt s o cur e9 v3 w (w3.setCell ⟨s, o + 1, none⟩ v3) := by
  have hg : w3.grownBy (w3.setCell ⟨s, o + 1, none⟩ v3) (some s) := gb_set (grownBy_refl _ _) _ _
  refine ⟨blk_set ((hB.block _ (blk_lt hh)).trans hh) _ _, (hT.below hB).step (fun k hk hlt => hg.block k hlt (fun e => ?_)), Kd.R_grown hR hg (fun k hk e => by injection e with e; exact hsr (e ▸ hk)), (Two.of_below hB).trans (Two.of_fst hg)⟩
  injection e with e
  subst e
  rcases hk with hk | hk
  · exact hs hk
  · exact hsb hk
theorem ch_done {order bt s o : Nat} {ok okr : Nat → Prop} {l l' : List S59} {v3 : Value} {cur : Array Value} {e9 : TypeId} {w w4 w5 : World} {e : Ending} (h : Stored order l l' ok okr bt s o cur e9 v3 w w4) (hsb : s ≠ bt) (hbr : ¬ okr bt) (hg : w4.grownBy w5 (some bt)) (hT : TG order l' ok bt w5) (he : e = .returned (.bool true)) :
    ChPost order l' ok okr bt s o cur e9 w e w5 :=
  ⟨he, v3, (hg.block _ (blk_lt h.blk) (fun e => hsb (by injection e))).trans h.blk, hT, Kd.R_grown h.row hg (fun k hk e => by injection e with e; exact hbr (e ▸ hk)), h.two.trans (Two.of_snd hg)⟩

theorem del_row {okr : Nat → Prop} {l l' : List S59} {lv v3 : Value} {w w3 : World} {n : Nat} (hR : k59.R 59 w 0 okr lv l) (hB : Below w.heap.size w w3) (h : k59.R 59 w3 n (fun _ => True) v3 l' ∨ (v3 = lv ∧ l' = l)) (hn : w.heap.size ≤ n) (hokr : ∀ k, w.heap.size ≤ k → okr k) : k59.R 59 w3 0 okr v3 l' := by
  rcases h with h | ⟨rfl, rfl⟩
  · exact Kd.R_lower (Kd.R_mono (ok' := okr) (Kd.R_bound h) (fun k hk => hokr k (Nat.le_trans hn hk.2.1))) (Nat.zero_le _)
  · exact Kd.R_below hR hB

set_option maxRecDepth 100000 in
set_option maxHeartbeats 8000000 in
theorem changes_calls {order bt s o : Nat} {ok okr : Nat → Prop} {l : List S59} {lv : Value} {cur : Array Value} {e9 : TypeId} {w : World} (hT : TG order l ok bt w) (hok : ∀ k, w.heap.size ≤ k → ok k) (hbt : ¬ ok bt) (hs : ¬ ok s) (hsb : s ≠ bt)
    (hh : w.heap[s]? = some (.cells cur e9 (0, 0))) (h0 : cur[o]? = some (.pointer (some ⟨bt, 0, none⟩))) (h1 : cur[o + 1]? = some lv) (hR : k59.R 59 w 0 okr lv l) (hokr : ∀ k, w.heap.size ≤ k → okr k) (hsr : ¬ okr s) (hbr : ¬ okr bt)
    (kd x i : Int) (kk k2 : ByteArray) (other beyond : Bool) (hk : kk.size ≤ 281474976710656) (hl : l.length < 1073741824) :
    Calls Try.prog 21 #[.pointer (some ⟨s, o, none⟩), .agg #[.int .i64 kd, .bool other, .string kk, .string k2, .int .i64 x, .int .i64 i, .bool beyond]] w (ChPost order (chL l kd kk x) ok okr bt s o cur e9 w) := by
  have hu46 := Try.underlying46
  have hu27 := Try.underlying27
  have x0 : w.cell? ⟨s, o, none⟩ = some (.pointer (some ⟨bt, 0, none⟩)) := (blk_cell hh o).trans h0
  have x1 : w.cell? ⟨s, o + 1, none⟩ = some lv := (blk_cell hh (o + 1)).trans h1
  obtain ⟨A, c, rfl, hc, hC⟩ := Kd.R_reads hR
  have hsl := blk_lt hh
  have HT := Aside0.mk hT
  have HR := Aside0.mk hR
  have HC := Aside0.mk hC
  have HH := Aside0.mk hh
  have HH1 := Aside0.mk h1
  have H0 := Aside0.mk h0
  have HS := Aside0.mk hT.sorted
  have hsz := hT.lt
  have HHAS : Aside0 (∀ W, Below w.heap.size w W → Calls Try.prog 26 #[.slice A l.length c, .string kk] W fun e w' => e = .returned (.bool (has (keysOf l) kk)) ∧ Drawn0 W w') :=
    ⟨fun W hW => PTreeRanks.keystoneref05_Has.calls (l.length + 1) A c l kk _ W (Kd.C_below hC hW) hc (refHas kk HS.out (by omega))⟩
  clear hT hR hC hh h0 h1
  unfold chL
  by_cases hkd : kd = 0
  · subst hkd
    rw [if_pos rfl]
    go_enter Try.func21, Try.ntmps21
    go_wp2
    have hN := heap_alloc_new w (.cells #[.int .i64 0, .bool other, .string kk, .string k2, .int .i64 x, .int .i64 i, .bool beyond] 46)
    have HB1 := Aside0.mk (below_mk (Below.refl w.heap.size w) (.cells #[.int .i64 0, .bool other, .string kk, .string k2, .int .i64 x, .int .i64 i, .bool beyond] 46))
    obtain ⟨q, hq⟩ : ∃ q, q = w.heap.size := ⟨_, rfl⟩
    rw [← hq] at hN ⊢
    have HQE := Aside0.mk hq
    clear hq
    generalize w.alloc (.cells #[.int .i64 0, .bool other, .string kk, .string k2, .int .i64 x, .int .i64 i, .bool beyond] 46) = w1 at *
    have y0 := pw_cell_below HB1.out x0
    have y1 := pw_cell_below HB1.out x1
    have z0 : w1.cell? ⟨q, 0, none⟩ = some (.int .i64 0) := (blk_cell hN 0).trans rfl
    have z2 : w1.cell? ⟨q, 2, none⟩ = some (.string kk) := (blk_cell hN 2).trans rfl
    have z4 : w1.cell? ⟨q, 4, none⟩ = some (.int .i64 x) := (blk_cell hN 4).trans rfl
    have HQ1 : Aside0 (∀ n, Calls Try.prog 26 #[.slice A l.length c, .string kk] (w1.drewN n) fun e w' => e = .returned (.bool (has (keysOf l) kk)) ∧ Drawn0 (w1.drewN n) w') :=
      ⟨fun n => HHAS.out _ (HB1.out.trans ((pw_below_drewN (Below.refl _ _) n).mono HB1.out.size))⟩
    clear x0 x1
    go_quiet ((go_at_call 26; exact quiet_D (HQ1.out _)))
    have HB2 := Aside0.mk (HB1.out.trans ((pw_below_drewN (Below.refl w1.heap.size w1) nq).mono HB1.out.size))
    have HH2 := Aside0.mk ((HB2.out.block _ hsl).trans HH.out)
    have y0' : (w1.drewN nq).cell? ⟨s, o, none⟩ = some (.pointer (some ⟨bt, 0, none⟩)) := y0
    have y1' : (w1.drewN nq).cell? ⟨s, o + 1, none⟩ = some (.slice A l.length c) := y1
    have z0' : (w1.drewN nq).cell? ⟨q, 0, none⟩ = some (.int .i64 0) := z0
    have z2' : (w1.drewN nq).cell? ⟨q, 2, none⟩ = some (.string kk) := z2
    have z4' : (w1.drewN nq).cell? ⟨q, 4, none⟩ = some (.int .i64 x) := z4
    clear y0 y1 z0 z2 z4 hN HQ1 HHAS HB1
    generalize w1.drewN nq = W2 at *
    go_wp2
    have HPUT : Aside0 (Calls Try.prog 31 #[.slice A l.length c, .string kk, .int .i64 x] W2.drew fun e w' => ∃ v, e = .returned v ∧ k59.R 59 w' W2.drew.heap.size (fun _ => True) v (insL l kk x) ∧ Below W2.drew.heap.size W2.drew w') :=
      ⟨PTreeRanks.keystoneref05_Put.calls (l.length + 1) A c l kk x _ W2.drew (Kd.C_below HC.out (HB2.out.trans ((below_drew (Below.refl W2.heap.size W2)).mono HB2.out.size))) hc (refPut kk x HS.out (by omega))⟩
    go_region_with (go_at_call 31; refine HPUT.out.mono ?_; rintro e w3 ⟨v3, rfl, hR3, hB3⟩; have u0 := pw_cell_below hB3 (show W2.drew.cell? ⟨s, o, none⟩ = _ from y0'); have hh3 := (hB3.block _ (blk_lt HH2.out)).trans HH2.out; have hcs := (blk_cell hh3 (o + 1)).trans HH1.out; have hfz := blk_frozen hh3 (o + 1); obtain ⟨A3, c3, rfl, _, _⟩ := Kd.R_reads hR3; have HR3 := Aside0.mk hR3; have HB3 := Aside0.mk hB3; clear hR3 hB3)
    all_goals
      have HST := Aside0.mk (ch_store (o := o) HT.out hs hsb HH.out (HB2.out.trans ((below_go HB3.out (below_drew (Below.refl W2.heap.size W2))).mono HB2.out.size)) (Kd.R_lower (Kd.R_mono (ok' := okr) (Kd.R_bound HR3.out) (fun k hk => hokr k (Nat.le_trans HB2.out.size hk.2.1))) (Nat.zero_le _)) hsr)
      have u1 := (blk_cell HST.out.blk o).trans ((Array.getElem?_setIfInBounds_ne (by omega)).trans H0.out)
      have hqs : (⟨s, o + 1, none⟩ : Addr).block ≠ q := by have := HQE.out; show s ≠ q; omega
      have u2 := (World.cell?_setCell_far w3 ⟨s, o + 1, none⟩ ⟨q, 2, none⟩ (.slice A3 (insL l kk x).length c3) hqs).trans (pw_cell_below HB3.out z2')
      have u4 := (World.cell?_setCell_far w3 ⟨s, o + 1, none⟩ ⟨q, 4, none⟩ (.slice A3 (insL l kk x).length c3) hqs).trans (pw_cell_below HB3.out z4')
      have hs34 : w3.heap.size = (w3.setCell ⟨s, o + 1, none⟩ (.slice A3 (insL l kk x).length c3)).heap.size := by simp
      have hs4 : w.heap.size ≤ (w3.setCell ⟨s, o + 1, none⟩ (.slice A3 (insL l kk x).length c3)).heap.size := HST.out.two.size
      clear hs34 hcs hfz hh3 u0 y0' y1' z0' z2' z4' HPUT
      generalize w3.setCell ⟨s, o + 1, none⟩ (.slice A3 (insL l kk x).length c3) = w4 at *
      have HPT := Aside0.mk (TG_put (w := w4.drew) (HST.out.tree.below (below_drew (Below.refl _ _))) kk hk (by omega) (fun k h => hok k (Nat.le_trans hs4 h)) hbt x)
      have HSK : Aside0 (∀ W, w4.grownBy W (some bt) → W.cell? ⟨s, o, none⟩ = some (.pointer (some ⟨bt, 0, none⟩)) ∧ W.cell? ⟨q, 2, none⟩ = some (.string kk) ∧ W.cell? ⟨q, 4, none⟩ = some (.int .i64 x) ∧ w4.grownBy W (some bt)) :=
        ⟨fun W hW => ⟨hW.cell u1 (fun e => by injection e with e; exact hsb e), hW.cell u2 (fun e => by injection e with e; have e : q = bt := e; have := HQE.out; omega), hW.cell u4 (fun e => by injection e with e; have e : q = bt := e; have := HQE.out; omega), hW⟩⟩
      clear u1 u2 u4 hs4
      go_wp2
      go_region_held3 (fun w' => w'.cell? ⟨s, o, none⟩ = some (.pointer (some ⟨bt, 0, none⟩)) ∧ w'.cell? ⟨q, 2, none⟩ = some (.string kk) ∧ w'.cell? ⟨q, 4, none⟩ = some (.int .i64 x) ∧ w4.grownBy w' (some bt)) (exact HSK.out _ (by first | assumption | exact grownBy_drew (grownBy_refl _ _))) (first | (go_at_call 25; refine HPT.out.mono ?_; rintro e w5 ⟨rfl, hg5, hT5⟩; have HG5 := Aside0.mk hg5; have hGn : w4.grownBy w5 (some bt) := grownBy_trans (grownBy_drew (grownBy_refl _ _)) hg5; have HT5 := Aside0.mk hT5; clear hg5 hT5))
      cases hb : has (keysOf l) kk
      all_goals
        go_wp2
        go_ret
        exact ch_done HST.out hsb hbr hGn HT5.out rfl
  · rw [if_neg hkd]
    have hkd1 : decide (kd = 0) = false := decide_eq_false hkd
    have hkd2 : (kd == 0) = false := by simpa using hkd
    go_enter Try.func21, Try.ntmps21
    go_wp2
    have hN := heap_alloc_new w (.cells #[.int .i64 kd, .bool other, .string kk, .string k2, .int .i64 x, .int .i64 i, .bool beyond] 46)
    have HB1 := Aside0.mk (below_mk (Below.refl w.heap.size w) (.cells #[.int .i64 kd, .bool other, .string kk, .string k2, .int .i64 x, .int .i64 i, .bool beyond] 46))
    obtain ⟨q, hq⟩ : ∃ q, q = w.heap.size := ⟨_, rfl⟩
    rw [← hq] at hN ⊢
    have HQE := Aside0.mk hq
    clear hq
    generalize w.alloc (.cells #[.int .i64 kd, .bool other, .string kk, .string k2, .int .i64 x, .int .i64 i, .bool beyond] 46) = w1 at *
    have y0 := pw_cell_below HB1.out x0
    have y1 := pw_cell_below HB1.out x1
    have z0 : w1.cell? ⟨q, 0, none⟩ = some (.int .i64 kd) := (blk_cell hN 0).trans rfl
    have z2 : w1.cell? ⟨q, 2, none⟩ = some (.string kk) := (blk_cell hN 2).trans rfl
    have HQ1 : Aside0 (∀ n, Calls Try.prog 26 #[.slice A l.length c, .string kk] (w1.drewN n) fun e w' => e = .returned (.bool (has (keysOf l) kk)) ∧ Drawn0 (w1.drewN n) w') :=
      ⟨fun n => HHAS.out _ (HB1.out.trans ((pw_below_drewN (Below.refl _ _) n).mono HB1.out.size))⟩
    clear x0 x1
    go_quiet ((go_at_call 26; exact quiet_D (HQ1.out _)))
    have HB2 := Aside0.mk (HB1.out.trans ((pw_below_drewN (Below.refl w1.heap.size w1) nq).mono HB1.out.size))
    have HH2 := Aside0.mk ((HB2.out.block _ hsl).trans HH.out)
    have y0' : (w1.drewN nq).cell? ⟨s, o, none⟩ = some (.pointer (some ⟨bt, 0, none⟩)) := y0
    have y1' : (w1.drewN nq).cell? ⟨s, o + 1, none⟩ = some (.slice A l.length c) := y1
    have z0' : (w1.drewN nq).cell? ⟨q, 0, none⟩ = some (.int .i64 kd) := z0
    have z2' : (w1.drewN nq).cell? ⟨q, 2, none⟩ = some (.string kk) := z2
    clear y0 y1 z0 z2 hN HQ1 HHAS HB1
    generalize w1.drewN nq = W2 at *
    go_wp2
    have HPUT : Aside0 (Calls Try.prog 44 #[.slice A l.length c, .string kk] W2.drew fun e w' => ∃ v, e = .returned v ∧ (k59.R 59 w' W2.drew.heap.size (fun _ => True) v (delL l kk) ∨ (v = .slice A l.length c ∧ delL l kk = l)) ∧ Below W2.drew.heap.size W2.drew w') :=
      ⟨PTreeRanks.keystoneref05_Delete.callsC (l.length + 1) A c l kk _ W2.drew (Kd.C_below HC.out (HB2.out.trans ((below_drew (Below.refl W2.heap.size W2)).mono HB2.out.size))) hc (refDelete kk HS.out (by omega))⟩
    go_region_with (go_at_call 44; refine HPUT.out.mono ?_; rintro e w3 ⟨v3, rfl, hR3, hB3⟩; have u0 := pw_cell_below hB3 (show W2.drew.cell? ⟨s, o, none⟩ = _ from y0'); have hh3 := (hB3.block _ (blk_lt HH2.out)).trans HH2.out; have hcs := (blk_cell hh3 (o + 1)).trans HH1.out; have hfz := blk_frozen hh3 (o + 1); have hR4 := del_row HR.out (HB2.out.trans ((below_go hB3 (below_drew (Below.refl W2.heap.size W2))).mono HB2.out.size)) hR3 HB2.out.size hokr; clear hR3; obtain ⟨A3, c3, rfl, _, _⟩ := Kd.R_reads hR4; have HR3 := Aside0.mk hR4; have HB3 := Aside0.mk hB3; clear hR4 hB3)
    all_goals
      have HST := Aside0.mk (ch_store (o := o) HT.out hs hsb HH.out (HB2.out.trans ((below_go HB3.out (below_drew (Below.refl W2.heap.size W2))).mono HB2.out.size)) HR3.out hsr)
      have u1 := (blk_cell HST.out.blk o).trans ((Array.getElem?_setIfInBounds_ne (by omega)).trans H0.out)
      have hqs : (⟨s, o + 1, none⟩ : Addr).block ≠ q := by have := HQE.out; show s ≠ q; omega
      have u2 := (World.cell?_setCell_far w3 ⟨s, o + 1, none⟩ ⟨q, 2, none⟩ (.slice A3 (delL l kk).length c3) hqs).trans (pw_cell_below HB3.out z2')
      have hs34 : w3.heap.size = (w3.setCell ⟨s, o + 1, none⟩ (.slice A3 (delL l kk).length c3)).heap.size := by simp
      have hs4 : w.heap.size ≤ (w3.setCell ⟨s, o + 1, none⟩ (.slice A3 (delL l kk).length c3)).heap.size := HST.out.two.size
      clear hs34 hcs hfz hh3 u0 y0' y1' z0' z2' HPUT
      generalize w3.setCell ⟨s, o + 1, none⟩ (.slice A3 (delL l kk).length c3) = w4 at *
      have HPT := Aside0.mk (TG_delete (w := w4.drew) (HST.out.tree.below (below_drew (Below.refl _ _))) kk (by omega) (fun k h => hok k (Nat.le_trans hs4 h)) hbt)
      have HSK : Aside0 (∀ W, w4.grownBy W (some bt) → W.cell? ⟨s, o, none⟩ = some (.pointer (some ⟨bt, 0, none⟩)) ∧ W.cell? ⟨q, 2, none⟩ = some (.string kk) ∧ w4.grownBy W (some bt)) :=
        ⟨fun W hW => ⟨hW.cell u1 (fun e => by injection e with e; exact hsb e), hW.cell u2 (fun e => by injection e with e; have e : q = bt := e; have := HQE.out; omega), hW⟩⟩
      clear u1 u2 hs4
      go_wp2
      go_region_held3 (fun w' => w'.cell? ⟨s, o, none⟩ = some (.pointer (some ⟨bt, 0, none⟩)) ∧ w'.cell? ⟨q, 2, none⟩ = some (.string kk) ∧ w4.grownBy w' (some bt)) (exact HSK.out _ (by first | assumption | exact grownBy_drew (grownBy_refl _ _))) (first | (go_at_call 27; refine HPT.out.mono ?_; rintro e w5 ⟨rfl, hg5, hT5⟩; have HG5 := Aside0.mk hg5; have hGn : w4.grownBy w5 (some bt) := grownBy_trans (grownBy_drew (grownBy_refl _ _)) hg5; have HT5 := Aside0.mk hT5; clear hg5 hT5))
      cases hb : has (keysOf l) kk
      all_goals
        go_wp2
        go_ret
        exact ch_done HST.out hsb hbr hGn HT5.out rfl
end Go.Proofs.Ytjabcdfbncglnaa
namespace Go.Proofs.Ytjabcdfbncglnaa
open Go.RowKit Go.Proofs.YtjabcdfbncglnaaW.PrintWords Go.Proofs.YtjabcdfbncglnaaW.PrintLast Go.Proofs.YtjabcdfbncglnaaW.PrintMore
open PTreeRanks (S59 k59 z59)
set_option linter.unusedVariables false
set_option linter.unusedSimpArgs false

/-- The blocks of two trees' nodes. -/
def Ok2 (n b0 b1 : Nat) : Nat → Prop := fun k => n ≤ k ∧ k ≠ b0 ∧ k ≠ b1

def BeInv (order : Nat) (w : World) (i : Nat) (W : World) : Prop :=
  Below w.heap.size w W ∧ W.heap[w.heap.size]? = some (.cells #[.pointer none, .slice none 0 0, .pointer none, .slice none 0 0] 49 (0, 0)) ∧
  ((i = 0 ∧ W.heap[w.heap.size + 1]? = some (.cells #[.pointer none, .slice none 0 0, .pointer none, .slice none 0 0] 49 (0, 0))) ∨
   (i = 1 ∧ ∃ b0, W.heap[w.heap.size + 1]? = some (.cells #[.pointer (some ⟨b0, 0, none⟩), .slice none 0 0, .pointer none, .slice none 0 0] 49 (0, 0)) ∧ TL order [] (w.heap.size + 2) b0 W) ∨
   (i = 2 ∧ ∃ b0 b1, W.heap[w.heap.size + 1]? = some (.cells #[.pointer (some ⟨b0, 0, none⟩), .slice none 0 0, .pointer (some ⟨b1, 0, none⟩), .slice none 0 0] 49 (0, 0)) ∧ w.heap.size + 2 ≤ b0 ∧ b0 < b1 ∧ TG order [] (Ok2 (w.heap.size + 2) b0 b1) b0 W ∧ TG order [] (Ok2 (w.heap.size + 2) b0 b1) b1 W))

/-- What begun answers: the two trees. -/
def BePost (order : Nat) (w : World) (e : Ending) (W : World) : Prop :=
  Below w.heap.size w W ∧ ∃ b0 b1, e = .returned (.tuple #[.agg #[.pointer (some ⟨b0, 0, none⟩), .slice none 0 0, .pointer (some ⟨b1, 0, none⟩), .slice none 0 0], .bool true, .bool true]) ∧ w.heap.size + 2 ≤ b0 ∧ b0 < b1 ∧
    TG order [] (Ok2 (w.heap.size + 2) b0 b1) b0 W ∧ TG order [] (Ok2 (w.heap.size + 2) b0 b1) b1 W

theorem TL.lower {order base base' bt : Nat} {l : List S59} {w : World} (h : TL order l base bt w) (hb : base' ≤ base) : TL order l base' bt w := by
  obtain ⟨h1, h2, h3, t, e, h4, hkl, v, h5, h6⟩ := h
  exact ⟨h1, h2, Nat.le_trans hb h3, t, e, h4, hkl, v, h5, (NK t.1).M_mono (fun k hk => ⟨Nat.le_trans hb hk.1, hk.2⟩) h6⟩

set_option maxRecDepth 100000 in
set_option maxHeartbeats 4000000 in
theorem begun_calls (order : Nat) (h3 : 3 ≤ order) (h4 : order ≤ 64) (w : World) : Calls Try.prog 20 #[.int .i64 (order : Nat)] w (BePost order w) := by
  have hu27 := Try.underlying27
  have hu49 := Try.underlying49
  have b1 : decide (((order : Nat) : Int) < 3) = false := decide_eq_false (by omega)
  have b2 : decide (((64 : Nat) : Int) < ((order : Nat) : Int)) = false := decide_eq_false (by omega)
  have b3 : decide ((64 : Int) < ((order : Nat) : Int)) = false := decide_eq_false (by omega)
  go_enter Try.func20, Try.ntmps20
  go_wp2
  have es : (w.alloc (.cells #[.pointer none, .slice none 0 0, .pointer none, .slice none 0 0] 49)).heap.size = w.heap.size + 1 := by simp
  have hh1 : ((w.alloc (.cells #[.pointer none, .slice none 0 0, .pointer none, .slice none 0 0] 49)).alloc (.cells #[.pointer none, .slice none 0 0, .pointer none, .slice none 0 0] 49)).heap[w.heap.size + 1]? = some (.cells #[.pointer none, .slice none 0 0, .pointer none, .slice none 0 0] 49 (0, 0)) := by
    rw [← es]
    exact heap_alloc_new _ _
  have HI : Aside0 (BeInv order w 0 ((w.alloc (.cells #[.pointer none, .slice none 0 0, .pointer none, .slice none 0 0] 49)).alloc (.cells #[.pointer none, .slice none 0 0, .pointer none, .slice none 0 0] 49))) :=
    ⟨below_mk (below_mk (Below.refl _ _) _) _, (Below.heap_alloc _ _ _ (by simp)).trans (heap_alloc_new w _), .inl ⟨rfl, hh1⟩⟩
  clear hh1 es
  go_loopw [9] (fun v W => ∃ i : Nat, v = .int .i64 i ∧ Aside0 (BeInv order w i W)) (fun v W => 2 - (RowKit.intOf v).toNat)
  case atStart => exact ⟨0, rfl, HI⟩
  case round =>
    clear HI
    obtain ⟨i, rfl, ⟨hB, hh0, hi⟩⟩ := hrel
    rcases hi with ⟨rfl, hh1⟩ | ⟨rfl, b0, hh1, hT⟩ | ⟨rfl, b0, b1, hh1, h20, h01, hT0, hT1⟩
    · have HN := Aside0.mk (new_calls order h3 h4 wr)
      have HB := Aside0.mk hB
      have HH0 := Aside0.mk hh0
      have HH1 := Aside0.mk hh1
      clear hB hh0 hh1
      go_wp2_with fail
      refine HN.out.mono ?_
      rintro e w1 ⟨rfl, hb1, hT1⟩
      have hh1 := (hb1.block _ (blk_lt HH1.out)).trans HH1.out
      have hh0 := (hb1.block _ (blk_lt HH0.out)).trans HH0.out
      have y0 : w1.cell? ⟨w.heap.size + 1, 0, none⟩ = some (.pointer none) := (blk_cell hh1 0).trans rfl
      have yf : w1.frozen? ⟨w.heap.size + 1, 0, none⟩ = false := blk_frozen hh1 0
      have hg : w1.grownBy (w1.setCell ⟨w.heap.size + 1, 0, none⟩ (.pointer (some ⟨wr.heap.size + 1, 0, none⟩))) (some (w.heap.size + 1)) := gb_set (grownBy_refl _ _) _ _
      have hB1 := HB.out.trans (hb1.mono HB.out.size)
      have hwr := blk_lt HH1.out
      have HI : Aside0 (BeInv order w 1 (w1.setCell ⟨w.heap.size + 1, 0, none⟩ (.pointer (some ⟨wr.heap.size + 1, 0, none⟩)))) :=
        ⟨hB1.trans (grownBy_below hg hB1.size (fun k e => by injection e with e; omega)), (hg.block _ (blk_lt hh0) (by intro e; injection e with e; omega)).trans hh0, .inr (.inl ⟨rfl, wr.heap.size + 1, (blk_set hh1 0 _).trans rfl, TL.lower (hT1.far hg (by omega)) (by omega)⟩)⟩
      clear HN hb1 hT1 hh1 hh0 hg hB1 HB HH0 HH1
      go_wp2
      go_roundw
      case measure => show 2 - (0 + 1) < 2 - 0; omega
      case rel => exact ⟨1, by first | rfl | (simp; done) | (congr 1), HI⟩
    · have HN := Aside0.mk (new_calls order h3 h4 wr)
      have HB := Aside0.mk hB
      have HH0 := Aside0.mk hh0
      have HH1 := Aside0.mk hh1
      have HT := Aside0.mk hT
      clear hB hh0 hh1 hT
      go_wp2_with fail
      refine HN.out.mono ?_
      rintro e w1 ⟨rfl, hb1, hT1⟩
      have hh1 := (hb1.block _ (blk_lt HH1.out)).trans HH1.out
      have hh0 := (hb1.block _ (blk_lt HH0.out)).trans HH0.out
      have y0 : w1.cell? ⟨w.heap.size + 1, 2, none⟩ = some (.pointer none) := (blk_cell hh1 2).trans rfl
      have yf : w1.frozen? ⟨w.heap.size + 1, 2, none⟩ = false := blk_frozen hh1 2
      have hg : w1.grownBy (w1.setCell ⟨w.heap.size + 1, 2, none⟩ (.pointer (some ⟨wr.heap.size + 1, 0, none⟩))) (some (w.heap.size + 1)) := gb_set (grownBy_refl _ _) _ _
      have hB1 := HB.out.trans (hb1.mono HB.out.size)
      have hwr := blk_lt HH1.out
      have hlt0 := HT.out.lt
      have hb0 := HT.out.2.2.1
      have hT0' : TG order [] (Ok2 (w.heap.size + 2) b0 (wr.heap.size + 1)) b0 w1 := (HT.out.gen.imp (fun k hk hlt => (⟨hk.1, hk.2.1, by omega⟩ : Ok2 (w.heap.size + 2) b0 (wr.heap.size + 1) k))).below hb1
      have hT1' : TG order [] (Ok2 (w.heap.size + 2) b0 (wr.heap.size + 1)) (wr.heap.size + 1) w1 := hT1.gen.imp (fun k hk hlt => ⟨by omega, by omega, hk.2.1⟩)
      have hne : ∀ k, Ok2 (w.heap.size + 2) b0 (wr.heap.size + 1) k ∨ k = b0 → k = w.heap.size + 1 → False := fun k hk e => by
        rcases hk with hk | hk
        · have := hk.1; omega
        · omega
      have hne' : ∀ k, Ok2 (w.heap.size + 2) b0 (wr.heap.size + 1) k ∨ k = wr.heap.size + 1 → k = w.heap.size + 1 → False := fun k hk e => by
        rcases hk with hk | hk
        · have := hk.1; omega
        · omega
      have HI : Aside0 (BeInv order w 2 (w1.setCell ⟨w.heap.size + 1, 2, none⟩ (.pointer (some ⟨wr.heap.size + 1, 0, none⟩)))) :=
        ⟨hB1.trans (grownBy_below hg hB1.size (fun k e => by injection e with e; omega)), (hg.block _ (blk_lt hh0) (by intro e; injection e with e; omega)).trans hh0, .inr (.inr ⟨rfl, b0, wr.heap.size + 1, (blk_set hh1 2 _).trans rfl, hb0, by omega,
          hT0'.step (fun k hk hlt => hg.block k hlt (fun e => hne k hk (by injection e))), hT1'.step (fun k hk hlt => hg.block k hlt (fun e => hne' k hk (by injection e)))⟩)⟩
      clear HN hb1 hT1 hh1 hh0 hg hB1 HB HH0 HH1 hT0' hT1' HT hne hne'
      go_wp2
      go_roundw
      case measure => show 2 - (1 + 1) < 2 - 1; omega
      case rel => exact ⟨2, by first | rfl | (simp; done) | (congr 1), HI⟩
    · have y0 : wr.cell? ⟨w.heap.size + 1, 0, none⟩ = some (.pointer (some ⟨b0, 0, none⟩)) := (blk_cell hh1 0).trans rfl
      have y1 : wr.cell? ⟨w.heap.size + 1, 1, none⟩ = some (.slice none 0 0) := (blk_cell hh1 1).trans rfl
      have y2 : wr.cell? ⟨w.heap.size + 1, 2, none⟩ = some (.pointer (some ⟨b1, 0, none⟩)) := (blk_cell hh1 2).trans rfl
      have y3 : wr.cell? ⟨w.heap.size + 1, 3, none⟩ = some (.slice none 0 0) := (blk_cell hh1 3).trans rfl
      have z0 : wr.cell? ⟨w.heap.size, 0, none⟩ = some (.pointer none) := (blk_cell hh0 0).trans rfl
      have z1 : wr.cell? ⟨w.heap.size, 1, none⟩ = some (.slice none 0 0) := (blk_cell hh0 1).trans rfl
      have z2 : wr.cell? ⟨w.heap.size, 2, none⟩ = some (.pointer none) := (blk_cell hh0 2).trans rfl
      have z3 : wr.cell? ⟨w.heap.size, 3, none⟩ = some (.slice none 0 0) := (blk_cell hh0 3).trans rfl
      have zf0 : wr.frozen? ⟨w.heap.size, 0, none⟩ = false := blk_frozen hh0 0
      have zf1 : wr.frozen? ⟨w.heap.size, 1, none⟩ = false := blk_frozen hh0 1
      have zf2 : wr.frozen? ⟨w.heap.size, 2, none⟩ = false := blk_frozen hh0 2
      have zf3 : wr.frozen? ⟨w.heap.size, 3, none⟩ = false := blk_frozen hh0 3
      have HB := Aside0.mk hB
      have HT0 := Aside0.mk hT0
      have HT1 := Aside0.mk hT1
      have HH0 := Aside0.mk hh0
      clear hB hh0 hh1 hT0 hT1
      go_wp2
      have hg : wr.grownBy ((((wr.setCell ⟨w.heap.size, 0, none⟩ (.pointer (some ⟨b0, 0, none⟩))).setCell ⟨w.heap.size, 1, none⟩ (.slice none 0 0)).setCell ⟨w.heap.size, 2, none⟩ (.pointer (some ⟨b1, 0, none⟩))).setCell ⟨w.heap.size, 3, none⟩ (.slice none 0 0)) (some w.heap.size) := gb_set (gb_set (gb_set (gb_set (grownBy_refl _ _) _ _) _ _) _ _) _ _
      refine bodyPost_ret (v := .tuple #[.agg #[.pointer (some ⟨b0, 0, none⟩), .slice none 0 0, .pointer (some ⟨b1, 0, none⟩), .slice none 0 0], .bool true, .bool true]) (by simp [results, Try.results20, go_sem, z0, z1, z2, z3, zf0, zf1, zf2, zf3, sizes]) rfl ?_
      have hne : ∀ k, k = w.heap.size → Ok2 (w.heap.size + 2) b0 b1 k ∨ k = b0 ∨ k = b1 → False := fun k e hk => by
        rcases hk with hk | hk
        · have := hk.1; omega
        · omega
      exact ⟨HB.out.trans (grownBy_below hg HB.out.size (fun k e => by injection e with e; omega)), b0, b1, rfl, h20, h01,
        HT0.out.step (fun k hk hlt => hg.block k hlt (fun e => hne k (by injection e) (hk.imp id .inl))), HT1.out.step (fun k hk hlt => hg.block k hlt (fun e => hne k (by injection e) (hk.imp id .inr)))⟩
end Go.Proofs.Ytjabcdfbncglnaa
namespace Go.Proofs.Ytjabcdfbncglnaa
open Go.RowKit Go.Proofs.YtjabcdfbncglnaaW.PrintWords Go.Proofs.YtjabcdfbncglnaaW.PrintLast Go.Proofs.YtjabcdfbncglnaaW.PrintMore
set_option linter.unusedVariables false
set_option linter.unusedSimpArgs false

set_option maxRecDepth 100000 in
set_option maxHeartbeats 4000000 in
theorem new_badX (order : Int) (h : order < 3 ∨ 64 < order) (w : World) : Calls Try.prog 30 #[.int .i64 order] w fun e w' => e = .returned (.tuple #[.pointer none, .int .i64 1]) ∧ w = w' := by
  by_cases h3 : order < 3
  · have b1 : decide (order < 3) = true := decide_eq_true h3
    clear h
    go_enter Try.func30, Try.ntmps30
    go_wp2
    go_ret2
    exact ⟨by simp, rfl⟩
  · have b1 : decide (order < 3) = false := decide_eq_false h3
    have b2 : decide ((64 : Int) < order) = true := decide_eq_true (by omega)
    clear h
    go_enter Try.func30, Try.ntmps30
    go_wp2
    go_ret2
    exact ⟨by simp, rfl⟩

def BadPost (w : World) (e : Ending) (W : World) : Prop :=
  Below w.heap.size w W ∧ e = .returned (.tuple #[.agg #[.pointer none, .slice none 0 0, .pointer none, .slice none 0 0], .bool false, .bool true])

set_option maxRecDepth 100000 in
set_option maxHeartbeats 4000000 in
theorem begun_bad (order : Int) (h : order < 3 ∨ 64 < order) (w : World) : Calls Try.prog 20 #[.int .i64 order] w (BadPost w) := by
  have hu27 := Try.underlying27
  have hu49 := Try.underlying49
  have HN : Aside0 (∀ W, Calls Try.prog 30 #[.int .i64 order] W fun e w' => e = .returned (.tuple #[.pointer none, .int .i64 1]) ∧ W = w') := ⟨fun W => new_badX order h W⟩
  by_cases h3 : order < 3
  · have b1 : decide (order < 3) = true := decide_eq_true h3
    clear h h3
    go_enter Try.func20, Try.ntmps20
    go_wp2
    have es : (w.alloc (.cells #[.pointer none, .slice none 0 0, .pointer none, .slice none 0 0] 49)).heap.size = w.heap.size + 1 := by simp
    have hh1 : ((w.alloc (.cells #[.pointer none, .slice none 0 0, .pointer none, .slice none 0 0] 49)).alloc (.cells #[.pointer none, .slice none 0 0, .pointer none, .slice none 0 0] 49)).heap[w.heap.size + 1]? = some (.cells #[.pointer none, .slice none 0 0, .pointer none, .slice none 0 0] 49 (0, 0)) := by
      rw [← es]
      exact heap_alloc_new _ _
    have HI : Aside0 (BeInv 0 w 0 ((w.alloc (.cells #[.pointer none, .slice none 0 0, .pointer none, .slice none 0 0] 49)).alloc (.cells #[.pointer none, .slice none 0 0, .pointer none, .slice none 0 0] 49))) :=
      ⟨below_mk (below_mk (Below.refl _ _) _) _, (Below.heap_alloc _ _ _ (by simp)).trans (heap_alloc_new w _), .inl ⟨rfl, hh1⟩⟩
    clear hh1 es
    go_loopw [9] (fun v W => v = .int .i64 0 ∧ Aside0 (BeInv 0 w 0 W)) (fun v W => 0)
    case atStart => exact ⟨rfl, HI⟩
    case round =>
      clear HI
      obtain ⟨rfl, ⟨hB, hh0, hi⟩⟩ := hrel
      rcases hi with ⟨_, hh1⟩ | ⟨h, _⟩ | ⟨h, _⟩
      · have y0 : wr.cell? ⟨w.heap.size + 1, 0, none⟩ = some (.pointer none) := (blk_cell hh1 0).trans rfl
        have y1 : wr.cell? ⟨w.heap.size + 1, 1, none⟩ = some (.slice none 0 0) := (blk_cell hh1 1).trans rfl
        have y2 : wr.cell? ⟨w.heap.size + 1, 2, none⟩ = some (.pointer none) := (blk_cell hh1 2).trans rfl
        have y3 : wr.cell? ⟨w.heap.size + 1, 3, none⟩ = some (.slice none 0 0) := (blk_cell hh1 3).trans rfl
        have z0 : wr.cell? ⟨w.heap.size, 0, none⟩ = some (.pointer none) := (blk_cell hh0 0).trans rfl
        have z1 : wr.cell? ⟨w.heap.size, 1, none⟩ = some (.slice none 0 0) := (blk_cell hh0 1).trans rfl
        have z2 : wr.cell? ⟨w.heap.size, 2, none⟩ = some (.pointer none) := (blk_cell hh0 2).trans rfl
        have z3 : wr.cell? ⟨w.heap.size, 3, none⟩ = some (.slice none 0 0) := (blk_cell hh0 3).trans rfl
        have zf0 : wr.frozen? ⟨w.heap.size, 0, none⟩ = false := blk_frozen hh0 0
        have zf1 : wr.frozen? ⟨w.heap.size, 1, none⟩ = false := blk_frozen hh0 1
        have zf2 : wr.frozen? ⟨w.heap.size, 2, none⟩ = false := blk_frozen hh0 2
        have zf3 : wr.frozen? ⟨w.heap.size, 3, none⟩ = false := blk_frozen hh0 3
        have HB := Aside0.mk hB
        clear hB hh0 hh1
        go_wp2_with fail
        refine (HN.out _).mono ?_
        rintro e w' ⟨rfl, rfl⟩
        go_wp2
        have hg : wr.grownBy ((((wr.setCell ⟨w.heap.size, 0, none⟩ (.pointer none)).setCell ⟨w.heap.size, 1, none⟩ (.slice none 0 0)).setCell ⟨w.heap.size, 2, none⟩ (.pointer none)).setCell ⟨w.heap.size, 3, none⟩ (.slice none 0 0)) (some w.heap.size) := gb_set (gb_set (gb_set (gb_set (grownBy_refl _ _) _ _) _ _) _ _) _ _
        refine bodyPost_ret (v := .tuple #[.agg #[.pointer none, .slice none 0 0, .pointer none, .slice none 0 0], .bool false, .bool true]) (by simp [results, Try.results20, go_sem, z0, z1, z2, z3, zf0, zf1, zf2, zf3, sizes]) rfl ?_
        exact ⟨HB.out.trans (grownBy_below hg HB.out.size (fun k e => by injection e with e; omega)), rfl⟩
      · exact absurd h (by omega)
      · exact absurd h (by omega)
  · have b1 : decide (order < 3) = false := decide_eq_false h3
    have b2 : decide ((64 : Int) < order) = true := decide_eq_true (by omega)
    clear h h3
    go_enter Try.func20, Try.ntmps20
    go_wp2
    have es : (w.alloc (.cells #[.pointer none, .slice none 0 0, .pointer none, .slice none 0 0] 49)).heap.size = w.heap.size + 1 := by simp
    have hh1 : ((w.alloc (.cells #[.pointer none, .slice none 0 0, .pointer none, .slice none 0 0] 49)).alloc (.cells #[.pointer none, .slice none 0 0, .pointer none, .slice none 0 0] 49)).heap[w.heap.size + 1]? = some (.cells #[.pointer none, .slice none 0 0, .pointer none, .slice none 0 0] 49 (0, 0)) := by
      rw [← es]
      exact heap_alloc_new _ _
    have HI : Aside0 (BeInv 0 w 0 ((w.alloc (.cells #[.pointer none, .slice none 0 0, .pointer none, .slice none 0 0] 49)).alloc (.cells #[.pointer none, .slice none 0 0, .pointer none, .slice none 0 0] 49))) :=
      ⟨below_mk (below_mk (Below.refl _ _) _) _, (Below.heap_alloc _ _ _ (by simp)).trans (heap_alloc_new w _), .inl ⟨rfl, hh1⟩⟩
    clear hh1 es
    go_loopw [9] (fun v W => v = .int .i64 0 ∧ Aside0 (BeInv 0 w 0 W)) (fun v W => 0)
    case atStart => exact ⟨rfl, HI⟩
    case round =>
      clear HI
      obtain ⟨rfl, ⟨hB, hh0, hi⟩⟩ := hrel
      rcases hi with ⟨_, hh1⟩ | ⟨h, _⟩ | ⟨h, _⟩
      · have y0 : wr.cell? ⟨w.heap.size + 1, 0, none⟩ = some (.pointer none) := (blk_cell hh1 0).trans rfl
        have y1 : wr.cell? ⟨w.heap.size + 1, 1, none⟩ = some (.slice none 0 0) := (blk_cell hh1 1).trans rfl
        have y2 : wr.cell? ⟨w.heap.size + 1, 2, none⟩ = some (.pointer none) := (blk_cell hh1 2).trans rfl
        have y3 : wr.cell? ⟨w.heap.size + 1, 3, none⟩ = some (.slice none 0 0) := (blk_cell hh1 3).trans rfl
        have z0 : wr.cell? ⟨w.heap.size, 0, none⟩ = some (.pointer none) := (blk_cell hh0 0).trans rfl
        have z1 : wr.cell? ⟨w.heap.size, 1, none⟩ = some (.slice none 0 0) := (blk_cell hh0 1).trans rfl
        have z2 : wr.cell? ⟨w.heap.size, 2, none⟩ = some (.pointer none) := (blk_cell hh0 2).trans rfl
        have z3 : wr.cell? ⟨w.heap.size, 3, none⟩ = some (.slice none 0 0) := (blk_cell hh0 3).trans rfl
        have zf0 : wr.frozen? ⟨w.heap.size, 0, none⟩ = false := blk_frozen hh0 0
        have zf1 : wr.frozen? ⟨w.heap.size, 1, none⟩ = false := blk_frozen hh0 1
        have zf2 : wr.frozen? ⟨w.heap.size, 2, none⟩ = false := blk_frozen hh0 2
        have zf3 : wr.frozen? ⟨w.heap.size, 3, none⟩ = false := blk_frozen hh0 3
        have HB := Aside0.mk hB
        clear hB hh0 hh1
        go_wp2_with fail
        refine (HN.out _).mono ?_
        rintro e w' ⟨rfl, rfl⟩
        go_wp2
        have hg : wr.grownBy ((((wr.setCell ⟨w.heap.size, 0, none⟩ (.pointer none)).setCell ⟨w.heap.size, 1, none⟩ (.slice none 0 0)).setCell ⟨w.heap.size, 2, none⟩ (.pointer none)).setCell ⟨w.heap.size, 3, none⟩ (.slice none 0 0)) (some w.heap.size) := gb_set (gb_set (gb_set (gb_set (grownBy_refl _ _) _ _) _ _) _ _) _ _
        refine bodyPost_ret (v := .tuple #[.agg #[.pointer none, .slice none 0 0, .pointer none, .slice none 0 0], .bool false, .bool true]) (by simp [results, Try.results20, go_sem, z0, z1, z2, z3, zf0, zf1, zf2, zf3, sizes]) rfl ?_
        exact ⟨HB.out.trans (grownBy_below hg HB.out.size (fun k e => by injection e with e; omega)), rfl⟩
      · exact absurd h (by omega)
      · exact absurd h (by omega)
end Go.Proofs.Ytjabcdfbncglnaa
namespace Go.Proofs.Ytjabcdfbncglnaa
open Go.RowKit Go.Proofs.YtjabcdfbncglnaaW.PrintWords Go.Proofs.YtjabcdfbncglnaaW.PrintLast Go.Proofs.YtjabcdfbncglnaaW.PrintMore
open PTreeRanks (S59 k59 z59)
set_option linter.unusedVariables false
set_option linter.unusedSimpArgs false

theorem ins_b : insL [] ⟨#[98]⟩ 2 = [⟨⟨#[98]⟩, 2⟩] := rfl
theorem ins_a : insL [⟨⟨#[98]⟩, 2⟩] ⟨#[97]⟩ 1 = [⟨⟨#[97]⟩, 1⟩, ⟨⟨#[98]⟩, 2⟩] := by kernel_rfl

set_option maxRecDepth 100000 in
set_option maxHeartbeats 4000000 in
theorem live_calls (w : World) : Calls Try.prog 10 #[] w fun e w' => e = .returned (.bool true) ∧ Below w.heap.size w w' := by
  have HN := Aside0.mk (new_calls 3 (Nat.le_refl _) (by omega) w)
  go_enter Try.func10, Try.ntmps10
  go_wp2_with fail
  refine HN.out.mono ?_
  rintro e w1 ⟨rfl, hb1, hT1⟩
  have HP := Aside0.mk (TL_put hT1 ⟨#[98]⟩ (by decide) (by decide) (hb1.size) 2)
  rw [ins_b] at HP
  clear HN hT1
  go_wp2_with fail
  refine HP.out.mono ?_
  rintro e w2 ⟨rfl, hg2, hT2⟩
  have HP2 := Aside0.mk (TL_put hT2 ⟨#[97]⟩ (by decide) (by decide) (Nat.le_trans hb1.size hg2.size) 1)
  rw [ins_a] at HP2
  clear HP hT2
  go_wp2_with fail
  refine HP2.out.mono ?_
  rintro e w3 ⟨rfl, hg3, hT3⟩
  have HA := Aside0.mk (TL_at hT3 (by decide) 1)
  have e1 : optV (if (1 : Int) < 0 then none else [(⟨⟨#[97]⟩, 1⟩ : S59), ⟨⟨#[98]⟩, 2⟩][(1 : Int).toNat]?) = .tuple #[.string ⟨#[98]⟩, .int .i64 2, .bool true] := rfl
  rw [e1] at HA
  clear HP2 hT3
  go_wp2_with fail
  refine HA.out.mono ?_
  rintro e w4 ⟨rfl, ⟨n, rfl⟩⟩
  go_wp2
  go_ret
  refine ⟨rfl, ?_⟩
  have hg : w1.grownBy w3 (some (w.heap.size + 1)) := grownBy_trans hg2 hg3
  have hb3 : Below w.heap.size w1 w3 := grownBy_below hg hb1.size (fun k e => by injection e with e; omega)
  exact pw_below_drewN (hb1.trans hb3) n
end Go.Proofs.Ytjabcdfbncglnaa
