/- WHAT IS PROVED: how rows of one's own make a leaf and an inner node. newInner makes an inner node of keys and kids. halveLeaf of a leaf that is full gives two leaves. halve of an inner node gives one or two inner nodes. put into a leaf gives the leaf with the key, in halves if need be. -/
import Derived.Test.YtjabcdfbncglnaaLB0
import Derived.Test.YtjabcdfbncglnaaLB1
import Derived.Deep.RegionHeld3
namespace Go.Proofs.Ytjabcdfbncglnaa
open Go.RowKit Go.Proofs.YtjabcdfbncglnaaW.PrintWords Go.Proofs.YtjabcdfbncglnaaW.PrintLast Go.Proofs.YtjabcdfbncglnaaW.PrintMore
open PTreeRanks (S59 k59 z59)
set_option linter.unusedVariables false
set_option linter.unusedSimpArgs false

/-- Elements and their values, place by place. -/
def Elems {α : Type} (R : α → Value → Prop) (cs : List α) (vs : List Value) : Prop := vs.length = cs.length ∧ ∀ (j : Nat) (t : α) (v : Value), cs[j]? = some t → vs[j]? = some v → R t v

section
variable {α : Type} {R : α → Value → Prop} {cs cs' : List α} {vs vs' : List Value}
theorem Elems.nil : Elems R [] [] := ⟨rfl, fun j t v h => by simp at h⟩
theorem Elems.imp {R' : α → Value → Prop} (h : Elems R cs vs) (hR : ∀ t v, R t v → R' t v) : Elems R' cs vs := ⟨h.1, fun j t v a b => hR _ _ (h.2 j t v a b)⟩
theorem Elems.append (h : Elems R cs vs) (h' : Elems R cs' vs') : Elems R (cs ++ cs') (vs ++ vs') := by
  refine ⟨by rw [List.length_append, List.length_append, h.1, h'.1], fun j t v a b => ?_⟩
  rw [List.getElem?_append] at a b
  rw [h.1] at b
  split at a
  · rw [if_pos ‹_›] at b; exact h.2 j t v a b
  · rw [if_neg ‹_›] at b; exact h'.2 _ t v a b
theorem Elems.take (h : Elems R cs vs) (n : Nat) : Elems R (cs.take n) (vs.take n) := by
  refine ⟨by rw [List.length_take, List.length_take, h.1], fun j t v a b => ?_⟩
  rw [List.getElem?_take] at a b
  split at a
  · rw [if_pos ‹_›] at b; exact h.2 j t v a b
  · cases a
theorem Elems.drop (h : Elems R cs vs) (n : Nat) : Elems R (cs.drop n) (vs.drop n) := by
  refine ⟨by rw [List.length_drop, List.length_drop, h.1], fun j t v a b => ?_⟩
  rw [List.getElem?_drop] at a b
  exact h.2 _ t v a b
theorem Elems.one {t : α} {v : Value} (h : R t v) : Elems R [t] [v] := ⟨rfl, fun j t' v' a b => by
  cases j with
  | zero => simp at a b; subst a; subst b; exact h
  | succ j => simp at a⟩
theorem Elems.set (h : Elems R cs vs) (i : Nat) {t : α} {v : Value} (hr : R t v) : Elems R (cs.set i t) (vs.set i v) := by
  refine ⟨by rw [List.length_set, List.length_set, h.1], fun j t' v' a b => ?_⟩
  rw [List.getElem?_set] at a b
  split at a
  · rw [if_pos ‹_›] at b
    split at a
    · rw [if_pos (by rw [h.1]; assumption)] at b
      cases a; cases b; exact hr
    · cases a
  · rw [if_neg ‹_›] at b; exact h.2 j t' v' a b
theorem Elems.ins (h : Elems R cs vs) (i : Nat) {t : α} {v : Value} (hr : R t v) : Elems R (cs.take i ++ t :: cs.drop i) (vs.take i ++ v :: vs.drop i) :=
  (h.take i).append ((Elems.one hr).append (h.drop i))
theorem Elems.get (h : Elems R cs vs) (i : Nat) (hi : i < cs.length) : ∃ v, vs[i]? = some v ∧ R cs[i] v :=
  ⟨vs[i]'(by rw [h.1]; exact hi), List.getElem?_eq_getElem _, h.2 i _ _ (List.getElem?_eq_getElem hi) (List.getElem?_eq_getElem _)⟩
theorem Elems.mem (h : Elems R cs vs) {v : Value} (hv : v ∈ vs) : ∃ t ∈ cs, R t v := by
  obtain ⟨i, hi, rfl⟩ := List.getElem_of_mem hv
  have hi' : i < cs.length := by rw [← h.1]; exact hi
  exact ⟨cs[i], List.getElem_mem hi', h.2 i _ _ (List.getElem?_eq_getElem hi') (List.getElem?_eq_getElem hi)⟩
end

theorem own_cells {w : World} {base e n : Nat} {v : Value} {xs : List Value} (h : w.ownsRow base e 1 v n xs) :
    ∃ A c, v = .slice A n c ∧ n ≤ c ∧ c ≤ 9223372036854775807 ∧ xs.length = n ∧ (0 < n → ∃ ad, A = some ad ∧ ∀ j u, xs[j]? = some u → w.cell? (ad.add j) = some u) := by
  have hl : xs.length = n := by rw [h.1, Nat.mul_one]
  rcases h.2 with ⟨rfl, rfl⟩ | ⟨g, cap, cur, rfl, hb, hh, h1, h2, h3, h4⟩
  · exact ⟨none, 0, rfl, Nat.le_refl _, by omega, hl, fun h => absurd h (by omega)⟩
  · exact ⟨_, cap, rfl, h1, by unfold maxLen at h2; exact h2, hl, fun _ => ⟨_, rfl, h.cells rfl⟩⟩

/-- A row of nobody's writing, by its values. -/
def VRow {α : Type} (R : World → (Nat → Prop) → α → Value → Prop) (e : Nat) (w : World) (ok : Nat → Prop) (v : Value) (xs : List α) : Prop :=
  (∀ k, v.ownBlock = some k → ok k) ∧ ∃ vs, w.ownsRow 0 e 1 v xs.length vs ∧ Elems (R w ok) xs vs

def RM {α : Type} (d : Kd α) (w : World) (ok : Nat → Prop) (t : α) (v : Value) : Prop := d.M w 0 ok t [v]

theorem VRow_iff {α : Type} {d : Kd α} (hd : d.sz = 1) {e : Nat} {w : World} {ok : Nat → Prop} {v : Value} {xs : List α} : VRow (RM d) e w ok v xs ↔ FRow d e w 0 ok v xs := by
  constructor
  · rintro ⟨h0, vs, ho, hl, he⟩
    refine ⟨h0, vs, by rw [hd]; exact ho, by rw [hd, Nat.mul_one]; exact hl, fun j p hj => ?_⟩
    have hj' : j < xs.length := (List.getElem?_eq_some_iff.1 hj).1
    have hv : vs[j]? = some (vs[j]'(by rw [hl]; exact hj')) := List.getElem?_eq_getElem _
    rw [hd, Nat.mul_one, List.drop_eq_getElem_cons (by rw [hl]; exact hj'), List.take_succ_cons, List.take_zero]
    exact he j p _ hj hv
  · rintro ⟨h0, vs, ho, hl, he⟩
    rw [hd] at ho hl he
    rw [Nat.mul_one] at hl
    refine ⟨h0, vs, ho, hl, fun j p v hj hv => ?_⟩
    have := he j p hj
    have hj' : j < xs.length := (List.getElem?_eq_some_iff.1 hj).1
    rw [Nat.mul_one, List.drop_eq_getElem_cons (by rw [hl]; exact hj'), List.take_succ_cons, List.take_zero] at this
    have e : vs[j]'(by rw [hl]; exact hj') = v := by
      have h2 := List.getElem?_eq_getElem (l := vs) (i := j) (by rw [hl]; exact hj')
      rw [h2] at hv
      exact Option.some.inj hv
    rw [e] at this
    exact this

theorem Elems_map {α : Type} (enc : α → Value) (R : α → Value → Prop) (hR : ∀ x, R x (enc x)) (xs : List α) : Elems R xs (xs.map enc) := by
  refine ⟨List.length_map _, fun j t v a b => ?_⟩
  rw [List.getElem?_map, a] at b
  cases b
  exact hR t

/-- Strings, whole numbers: the values are those that they must be. -/
theorem Elems_scalar {α : Type} {enc : α → Value} {h1 : ∀ x, (enc x).oneCell' = true} {w : World} {ok : Nat → Prop} {xs : List α} {vs : List Value} (h : Elems (RM (Kd.scalar enc h1) w ok) xs vs) : vs = xs.map enc := by
  apply List.ext_getElem?
  intro j
  rw [List.getElem?_map]
  cases hx : xs[j]? with
  | none =>
    rw [Option.map_none, List.getElem?_eq_none_iff, h.1]
    exact List.getElem?_eq_none_iff.1 hx
  | some x =>
    have hj : j < vs.length := by rw [h.1]; exact (List.getElem?_eq_some_iff.1 hx).1
    have h2 := h.2 j x _ hx (List.getElem?_eq_getElem hj)
    have h3 : [vs[j]] = [enc x] := h2
    rw [List.getElem?_eq_getElem hj, Option.map_some]
    simpa using h3

abbrev SRow := FRow Kd.string 9
abbrev IRow := FRow (Kd.int .i64) 2
abbrev CRow (d : Nat) := FRow (NK d) 69

theorem SRow_own {w : World} {ok : Nat → Prop} {v : Value} {ks : List ByteArray} (h : SRow w 0 ok v ks) : w.ownsRow 0 9 1 v ks.length (ks.map .string) ∧ ∀ k, v.ownBlock = some k → ok k := by
  obtain ⟨h0, vs, ho, he⟩ := (VRow_iff rfl).2 h
  rw [Elems_scalar he] at ho
  exact ⟨ho, h0⟩
theorem IRow_own {w : World} {ok : Nat → Prop} {v : Value} {ks : List Int} (h : IRow w 0 ok v ks) : w.ownsRow 0 2 1 v ks.length (ks.map (.int .i64)) ∧ ∀ k, v.ownBlock = some k → ok k := by
  obtain ⟨h0, vs, ho, he⟩ := (VRow_iff rfl).2 h
  rw [Elems_scalar he] at ho
  exact ⟨ho, h0⟩
theorem SRow_mk {w : World} {base n : Nat} {ok : Nat → Prop} {v : Value} {ks : List ByteArray} (h : w.ownsRow base 9 1 v n (ks.map .string)) (hok : ∀ k, base ≤ k → ok k) : SRow w 0 ok v ks := by
  have hn : ks.length = n := by have := h.1; rw [List.length_map, Nat.mul_one] at this; exact this
  subst hn
  exact (VRow_iff (d := Kd.string) rfl).1 ⟨fun k hk => hok k (own_base h k hk), _, own_weaken h (Nat.zero_le _), Elems_map _ (RM (Kd.string) w ok) (fun x => (rfl : [Value.string x] = [Value.string x])) _⟩
theorem IRow_mk {w : World} {base n : Nat} {ok : Nat → Prop} {v : Value} {ks : List Int} (h : w.ownsRow base 2 1 v n (ks.map (.int .i64))) (hok : ∀ k, base ≤ k → ok k) : IRow w 0 ok v ks := by
  have hn : ks.length = n := by have := h.1; rw [List.length_map, Nat.mul_one] at this; exact this
  subst hn
  exact (VRow_iff (d := Kd.int .i64) rfl).1 ⟨fun k hk => hok k (own_base h k hk), _, own_weaken h (Nat.zero_le _), Elems_map _ (RM (Kd.int .i64) w ok) (fun x => (rfl : [Value.int .i64 x] = [Value.int .i64 x])) _⟩
theorem CRow_own {d : Nat} {w : World} {ok : Nat → Prop} {v : Value} {cs : List (T d)} (h : CRow d w 0 ok v cs) : ∃ vs, w.ownsRow 0 69 1 v cs.length vs ∧ Elems (RM (NK d) w ok) cs vs ∧ ∀ k, v.ownBlock = some k → ok k := by
  obtain ⟨h0, vs, ho, he⟩ := (VRow_iff (NK_sz d)).2 h
  exact ⟨vs, ho, he, h0⟩
theorem CRow_mk {d : Nat} {w : World} {base n : Nat} {ok : Nat → Prop} {v : Value} {cs : List (T d)} {vs : List Value} (h : w.ownsRow base 69 1 v n vs) (he : Elems (RM (NK d) w ok) cs vs) (hok : ∀ k, base ≤ k → ok k) : CRow d w 0 ok v cs := by
  have hn : cs.length = n := by have := h.1; rw [Nat.mul_one, he.1] at this; exact this
  subst hn
  exact (VRow_iff (NK_sz d)).1 ⟨fun k hk => hok k (own_base h k hk), _, own_weaken h (Nat.zero_le _), he⟩

theorem M_below' {α : Type} {d : Kd α} {w w1 : World} {base : Nat} {ok : Nat → Prop} {x : α} {cs : List Value} (h : d.M w base ok x cs) (hb : Below w.heap.size w w1) : d.M w1 base ok x cs :=
  Kd.M_step h (fun k _ hk => hb.block k hk)
theorem FRow_below {α : Type} {d : Kd α} {e : Nat} {w w1 : World} {base : Nat} {ok : Nat → Prop} {v : Value} {xs : List α} (h : FRow d e w base ok v xs) (hb : Below w.heap.size w w1) : FRow d e w1 base ok v xs :=
  FRow_step h (fun k _ hk => hb.block k hk)

theorem leaf_M {w : World} {ok : Nat → Prop} {l : List S59} {v : Value} : (NK 0).M w 0 ok l [v] ↔ ∃ b kv vv, v = .iface 82 (.pointer (some ⟨b, 0, none⟩)) ∧ ok b ∧ w.heap[b]? = some (.cells #[kv, vv] 85 (0, 0)) ∧
    SRow w 0 ok kv (l.map S59.f0) ∧ IRow w 0 ok vv (l.map S59.f1) := by
  constructor
  · rintro ⟨b, ccs, e, _, h2, h3, ⟨c0, c1, rfl, ⟨kv, rfl, hk⟩, ⟨vv, rfl, hv⟩⟩⟩
    simp only [List.cons.injEq, and_true] at e
    exact ⟨b, kv, vv, e, h2, h3, hk, hv⟩
  · rintro ⟨b, kv, vv, rfl, h2, h3, hk, hv⟩
    exact ⟨b, [kv, vv], rfl, Nat.zero_le _, h2, h3, [kv], [vv], rfl, ⟨kv, rfl, hk⟩, ⟨vv, rfl, hv⟩⟩

theorem inner_M {w : World} {ok : Nat → Prop} {d : Nat} {ks : List ByteArray} {cs : List (T d)} {v : Value} : (NK (d + 1)).M w 0 ok ((ks, cs) : List ByteArray × List (T d)) [v] ↔
    ∃ b kv cv, v = .iface 78 (.pointer (some ⟨b, 0, none⟩)) ∧ ok b ∧ w.heap[b]? = some (.cells #[kv, cv, .int .i64 (sizes cs : Nat)] 81 (0, 0)) ∧ SRow w 0 ok kv ks ∧ CRow d w 0 ok cv cs := by
  constructor
  · rintro ⟨b, ccs, e, _, h2, h3, ⟨c0, c1, rfl, ⟨kv, rfl, hk⟩, ⟨c2, c3, rfl, ⟨cv, rfl, hc⟩, e3⟩⟩⟩
    simp only [List.cons.injEq, and_true] at e
    replace e3 : c3 = [.int .i64 ((cs.map (size d)).sum : Nat)] := e3
    subst e3
    exact ⟨b, kv, cv, e, h2, h3, hk, hc⟩
  · rintro ⟨b, kv, cv, rfl, h2, h3, hk, hc⟩
    exact ⟨b, [kv, cv, _], rfl, Nat.zero_le _, h2, h3, [kv], [cv, .int .i64 (sizes cs : Nat)], rfl, ⟨kv, rfl, hk⟩, ⟨[cv], _, rfl, ⟨cv, rfl, hc⟩, rfl⟩⟩

theorem NK_one {d : Nat} {t : T d} {v : Value} {w : World} (h : (NK d).K w t [v]) : v.oneCell' = true := (NK d).K_one h v (List.mem_singleton_self _)

end Go.Proofs.Ytjabcdfbncglnaa
namespace Go.Proofs.Ytjabcdfbncglnaa
open Go.RowKit Go.Proofs.YtjabcdfbncglnaaW.PrintWords Go.Proofs.YtjabcdfbncglnaaW.PrintLast Go.Proofs.YtjabcdfbncglnaaW.PrintMore
open PTreeRanks (S59 k59 z59)
set_option linter.unusedVariables false
set_option linter.unusedSimpArgs false

/-- What a maker of an inner node answers. -/
def InnerPost (d : Nat) (ks : List ByteArray) (cs : List (T d)) (ok : Nat → Prop) (w : World) (e : Ending) (w' : World) : Prop :=
  ∃ b, e = .returned (.pointer (some ⟨b, 0, none⟩)) ∧ w.heap.size ≤ b ∧ (NK (d + 1)).M w' 0 ok ((ks, cs) : List ByteArray × List (T d)) [.iface 78 (.pointer (some ⟨b, 0, none⟩))] ∧ Below w.heap.size w w'

set_option maxRecDepth 100000 in
set_option maxHeartbeats 4000000 in
theorem newInner_calls {d : Nat} {ks : List ByteArray} {cs : List (T d)} {kv cv : Value} {w : World} {ok : Nat → Prop} (hk : SRow w 0 ok kv ks) (hc : CRow d w 0 ok cv cs) (hok : ∀ k, w.heap.size ≤ k → ok k)
    (hsz : sizes cs ≤ 1099511627776) :
    Calls Try.prog 49 #[kv, cv] w (InnerPost d ks cs ok w) := by
  obtain ⟨A, c, rfl, hkc, hkC⟩ := FRow_reads hk
  obtain ⟨A', c', rfl, hcc, hcC⟩ := FRow_reads hc
  have HK := Aside0.mk hk
  have HC := Aside0.mk hc
  have HCC := Aside0.mk hcC
  have hcl := hcC.2.1
  have m1 := meth_leaf
  have m2 := meth_inner
  clear hk hc hkC hcC
  go_enter Try.func49, Try.ntmps49
  go_wp2
  go_loopw [14] (fun v14 w' => ∃ j : Nat, j ≤ cs.length ∧ v14 = .int .i64 j ∧ Aside0 (w'.heap[w.heap.size]? = some (.cells #[.slice A ks.length c, .slice A' cs.length c', .int .i64 (sizes (cs.take j) : Nat)] 81 (0, 0))) ∧ Aside0 (Below w.heap.size w w')) (fun v14 _ => cs.length - (intOf v14).toNat)
  case atStart => exact ⟨0, Nat.zero_le _, rfl, ⟨heap_alloc_new w _⟩, ⟨(Below.refl _ w).alloc (Nat.le_refl _) _⟩⟩
  case round =>
    obtain ⟨j, hj, rfl, HH, HB⟩ := hrel
    have x2 : wr.cell? ⟨w.heap.size, 2, none⟩ = some (.int .i64 (sizes (cs.take j) : Nat)) := (blk_cell HH.out 2).trans rfl
    have f2 : wr.frozen? ⟨w.heap.size, 2, none⟩ = false := blk_frozen HH.out 2
    by_cases hjl : j < cs.length
    · obtain ⟨ad, vj, e, hcell, hKj⟩ := C_kid (Kd.C_below HCC.out HB.out) j hjl
      cases e
      have hs1 := sizes_take_le cs j hjl
      have hs2 := sizes_take cs j hjl
      have hs3 : size d cs[j] ≤ 1099511627776 := by omega
      have hs4 : sizes (cs.take j) + size d cs[j] ≤ 1099511627776 := by omega
      have HN : Aside0 (((sizes (cs.take (j + 1)) : Nat) : Int) = ((sizes (cs.take j) : Nat) : Int) + ((size d cs[j] : Nat) : Int)) := ⟨by rw [hs2]; omega⟩
      clear hs1 hs2
      generalize cs[j] = tj at *
      have hw1 : IntKind.i64.wrap (((sizes (cs.take j) : Nat) : Int) + ((size d tj : Nat) : Int)) = ((sizes (cs.take j) : Nat) : Int) + ((size d tj : Nat) : Int) := by rw [IntKind.wrap_i64]; omega
      rcases count_any (K_drewN hKj 1) with ⟨bt, rfl, hcnt⟩ | ⟨bt, rfl, hcnt⟩
      all_goals
        have HCN := Aside0.mk hcnt
        clear hcnt hKj
        go_wp2_with fail
        go_region_with ((refine HCN.out.mono ?_; rintro e w' ⟨rfl, rfl⟩))
        all_goals
          go_wp2
          go_roundw
          case rel =>
            refine ⟨j + 1, by omega, by go_num, ⟨?_⟩, ⟨?_⟩⟩
            · rw [HN.out]
              exact (blk_set (w := wr) HH.out 2 _).trans rfl
            · exact (pw_below_drewN HB.out 1).setCell (p := ⟨w.heap.size, 2, none⟩) (Nat.le_refl _) _
          case measure => simp [intOf]; omega
    · have hj : j = cs.length := by omega
      subst hj
      have HM : Aside0 ((NK (d + 1)).M wr 0 ok ((ks, cs) : List ByteArray × List (T d)) [.iface 78 (.pointer (some ⟨w.heap.size, 0, none⟩))]) := ⟨inner_M.2 ⟨w.heap.size, _, _, rfl, hok _ (Nat.le_refl _), by
        have := HH.out
        rw [List.take_length] at this
        exact this, FRow_below HK.out HB.out, FRow_below HC.out HB.out⟩⟩
      clear HK HC HH
      go_wp2
      go_ret
      exact ⟨w.heap.size, rfl, Nat.le_refl _, HM.out, HB.out⟩

end Go.Proofs.Ytjabcdfbncglnaa
namespace Go.Proofs.Ytjabcdfbncglnaa
open Go.RowKit Go.Proofs.YtjabcdfbncglnaaW.PrintWords Go.Proofs.YtjabcdfbncglnaaW.PrintLast Go.Proofs.YtjabcdfbncglnaaW.PrintMore
open PTreeRanks (S59 k59 z59)
set_option linter.unusedVariables false
set_option linter.unusedSimpArgs false

/-- A node, and perhaps a key and a second node: what a put answers below a node. -/
def SplitPost (d : Nat) (s : T d × Option (ByteArray × T d)) (ok : Nat → Prop) (w : World) (e : Ending) (w' : World) : Prop :=
  Below w.heap.size w w' ∧ match s.2 with
    | none => ∃ lv, e = .returned (.agg #[lv, .string ⟨#[]⟩, .nilIface]) ∧ (NK d).M w' 0 ok s.1 [lv]
    | some (mid, r) => ∃ lv rv, e = .returned (.agg #[lv, .string mid, rv]) ∧ (NK d).M w' 0 ok s.1 [lv] ∧ (NK d).M w' 0 ok r [rv]

def halveLeafT (order : Nat) (l : List S59) : List S59 × Option (ByteArray × List S59) :=
  if l.length < order then (l, none) else (l.take (l.length / 2), some ((l.getD (l.length / 2) z59).f0, l.drop (l.length / 2)))

set_option maxRecDepth 100000 in
set_option maxHeartbeats 4000000 in
theorem halveLeaf_keep {l : List S59} {w : World} {ok : Nat → Prop} {bt b order : Nat} (h0 : w.cell? ⟨bt, 0, none⟩ = some (.int .i64 order)) (hM : (NK 0).M w 0 ok l [.iface 82 (.pointer (some ⟨b, 0, none⟩))]) (hl : l.length < order) :
    Calls Try.prog 58 #[.pointer (some ⟨bt, 0, none⟩), .pointer (some ⟨b, 0, none⟩)] w (SplitPost 0 (l, none) ok w) := by
  obtain ⟨b', kv, vv, e, hb, hh, hk, hv⟩ := leaf_M.1 hM
  cases e
  obtain ⟨A, c, rfl, hkc, hkC⟩ := FRow_reads hk
  rw [List.length_map] at hkc hh
  have x0 : w.cell? ⟨b, 0, none⟩ = some (.slice A l.length c) := (blk_cell hh 0).trans rfl
  have hlm := hkC.2.1
  rw [List.length_map] at hlm
  have HM := Aside0.mk hM
  have hdec : decide (l.length < order) = true := decide_eq_true hl
  have hlt1 : bt < w.heap.size := World.block_lt_of_cell? w ⟨bt, 0, none⟩ h0
  have hlt2 : b < w.heap.size := blk_lt hh
  clear hM hk hv hh hkC
  go_enter Try.func58, Try.ntmps58
  go_wp2
  go_quiet (fail)
  go_wp2
  refine bodyPost_ret (v := .agg #[.iface 82 (.pointer (some ⟨b, 0, none⟩)), .string ⟨#[]⟩, .nilIface]) (by simp [results, Try.results58, go_sem]) rfl ?_
  refine ⟨?_, _, rfl, M_below' HM.out ?_⟩ <;>
  exact Below.setCell (p := ⟨w.heap.size, 2, none⟩) (Below.setCell (p := ⟨w.heap.size, 1, none⟩) (Below.setCell (p := ⟨w.heap.size, 0, none⟩) (pw_below_drewN ((Below.refl _ w).alloc (Nat.le_refl _) _) nq) (Nat.le_refl _) _) (Nat.le_refl _) _) (Nat.le_refl _) _

/-- The box of a result that is a split, not yet written. -/
def ResBox (r : Nat) (W : World) : Prop := W.heap[r]? = some (.cells #[.nilIface, .string ⟨#[]⟩, .nilIface] 107 (0, 0))
theorem ResBox.cells {r : Nat} {W : World} (h : ResBox r W) : (W.cell? ⟨r, 0, none⟩ = some .nilIface ∧ W.cell? ⟨r, 1, none⟩ = some (.string ⟨#[]⟩) ∧ W.cell? ⟨r, 2, none⟩ = some .nilIface) ∧ W.frozen? ⟨r, 0, none⟩ = false ∧ W.frozen? ⟨r, 1, none⟩ = false ∧ W.frozen? ⟨r, 2, none⟩ = false :=
  ⟨⟨(blk_cell h 0).trans rfl, (blk_cell h 1).trans rfl, (blk_cell h 2).trans rfl⟩, blk_frozen h 0, blk_frozen h 1, blk_frozen h 2⟩

theorem below_go {W0 w1 w2 : World} (k : Below w1.heap.size w1 w2) (h : Below W0.heap.size W0 w1) : Below W0.heap.size W0 w2 := h.trans (k.mono h.size)
theorem gb_below {W0 w1 w2 : World} {u : Option Nat} (k : Below w1.heap.size w1 w2) (h : W0.grownBy w1 u) : W0.grownBy w2 u := grownBy_trans h ⟨k.os, k.tape, k.output, k.size, fun i hi _ => k.block i hi⟩
theorem gb_alloc {W0 w1 : World} {u : Option Nat} (h : W0.grownBy w1 u) (o : Obj) : W0.grownBy (w1.alloc o) u := grownBy_trans h (World.grownBy_alloc w1 o u)
theorem gb_set {W0 w1 : World} {r : Nat} (h : W0.grownBy w1 (some r)) (j : Nat) (v : Value) : W0.grownBy (w1.setCell ⟨r, j, none⟩ v) (some r) :=
  grownBy_trans h ⟨rfl, rfl, rfl, by simp [World.setCell], fun k _ hne => Below.heap_setCell _ _ _ _ (fun e => hne (by rw [e]))⟩
theorem gb_old {w W0 W : World} (h : Below w.heap.size w W0) (k : W0.grownBy W (some w.heap.size)) : Below w.heap.size w W :=
  h.trans ⟨k.os, k.tape, k.output, k.size, fun i hi => k.block i (Nat.lt_of_lt_of_le hi h.size) (fun e => by injection e with e; omega)⟩
theorem below_mk {W0 w1 : World} (h : Below W0.heap.size W0 w1) (o : Obj) : Below W0.heap.size W0 (w1.alloc o) := h.alloc h.size o

/-- A part of a row of one-cell values, its cells in whatever later world. -/
theorem cells_later {w W : World} {ad : Addr} {xs : List Value} (h : ∀ (j : Nat) (u : Value), xs[j]? = some u → w.cell? (ad.add j) = some u) (hb : Below w.heap.size w W) : ∀ (j : Nat) (u : Value), xs[j]? = some u → W.cell? (ad.add j) = some u :=
  fun j u hj => pw_cell_below hb (h j u hj)
theorem cells_drop {w : World} {ad : Addr} {xs : List Value} (h : ∀ (j : Nat) (u : Value), xs[j]? = some u → w.cell? (ad.add j) = some u) (i : Nat) : ∀ (j : Nat) (u : Value), (xs.drop i)[j]? = some u → w.cell? ((ad.add i).add j) = some u :=
  fun j u hj => by rw [Addr.add_add]; rw [List.getElem?_drop] at hj; exact h _ u hj
theorem cells_take {w : World} {ad : Addr} {xs : List Value} (h : ∀ (j : Nat) (u : Value), xs[j]? = some u → w.cell? (ad.add j) = some u) (i : Nat) : ∀ (j : Nat) (u : Value), (xs.take i)[j]? = some u → w.cell? (ad.add j) = some u :=
  fun j u hj => by
    rw [List.getElem?_take] at hj
    split at hj
    · exact h _ u hj
    · cases hj

theorem leaf_fin {W : World} {ok : Nat → Prop} {B b b1 b2 n1 n2 : Nat} {kv vv : Value} {l : List S59} (hok : ∀ k, B ≤ k → ok k) (hb : B ≤ b) (hh : W.heap[b]? = some (.cells #[kv, vv] 85 (0, 0)))
    (hk : W.ownsRow b1 9 1 kv n1 ((l.map S59.f0).map .string)) (hv : W.ownsRow b2 2 1 vv n2 ((l.map S59.f1).map (.int .i64))) (h1 : B ≤ b1) (h2 : B ≤ b2) : (NK 0).M W 0 ok l [.iface 82 (.pointer (some ⟨b, 0, none⟩))] :=
  leaf_M.2 ⟨b, kv, vv, rfl, hok _ hb, hh, SRow_mk hk (fun k h => hok k (Nat.le_trans h1 h)), IRow_mk hv (fun k h => hok k (Nat.le_trans h2 h))⟩

theorem own_kept {w w1 : World} {base e n r : Nat} {v : Value} {xs : List Value} (h : w.ownsRow base e 1 v n xs) (hg : w.grownBy w1 (some r)) (hr : r < base) : w1.ownsRow base e 1 v n xs := by
  refine h.kept hg ?_
  cases hv : v.ownBlock with
  | none => exact .inl rfl
  | some k =>
    right
    intro e
    injection e with e
    have := own_base h k hv
    omega

set_option maxRecDepth 100000 in
set_option maxHeartbeats 4000000 in
theorem halveLeaf_split {l : List S59} {w : World} {ok : Nat → Prop} {bt b order : Nat} (h0 : w.cell? ⟨bt, 0, none⟩ = some (.int .i64 order)) (hM : (NK 0).M w 0 ok l [.iface 82 (.pointer (some ⟨b, 0, none⟩))]) (hl : ¬ l.length < order)
    (hl2 : 2 ≤ l.length) (hl3 : l.length ≤ 1000) (hok : ∀ k, w.heap.size ≤ k → ok k) :
    Calls Try.prog 58 #[.pointer (some ⟨bt, 0, none⟩), .pointer (some ⟨b, 0, none⟩)] w (SplitPost 0 (halveLeafT order l) ok w) := by
  rw [halveLeafT, if_neg hl]
  obtain ⟨b', kv, vv, e, hb, hh, hk, hv⟩ := leaf_M.1 hM
  cases e
  obtain ⟨hko, hkb⟩ := SRow_own hk
  obtain ⟨hvo, hvb⟩ := IRow_own hv
  obtain ⟨A, c, rfl, hkc, hkc2, _, hkA⟩ := own_cells hko
  obtain ⟨A', c', rfl, hvc, hvc2, _, hvA⟩ := own_cells hvo
  simp only [List.length_map] at hkc hkA hvc hvA hh
  have x0 : w.cell? ⟨b, 0, none⟩ = some (.slice A l.length c) := (blk_cell hh 0).trans rfl
  have x1 : w.cell? ⟨b, 1, none⟩ = some (.slice A' l.length c') := (blk_cell hh 1).trans rfl
  have HM := Aside0.mk hM
  have hdec : decide (l.length < order) = false := decide_eq_false hl
  have hlt1 : bt < w.heap.size := World.block_lt_of_cell? w ⟨bt, 0, none⟩ h0
  have hlt2 : b < w.heap.size := blk_lt hh
  have hlm : l.length ≤ 9223372036854775807 := by omega
  have hdiv : ((l.length : Int) / 2) = ((l.length / 2 : Nat) : Int) := by omega
  obtain ⟨ad, rfl, hkA1⟩ := hkA (by omega)
  obtain ⟨ad', rfl, hvA1⟩ := hvA (by omega)
  have HDIV := Aside0.mk hdiv
  have hh1 : 1 ≤ l.length / 2 := by omega
  have hh2 : l.length / 2 < l.length := by omega
  have HKA := Aside0.mk hkA1
  have HVA := Aside0.mk hvA1
  clear hM hk hv hh hko hvo hdiv hkA hvA hkA1 hvA1
  go_enter Try.func58, Try.ntmps58
  go_wp2
  go_quiet (fail)
  go_wp2
  rw [HDIV.out]
  clear HDIV
  generalize l.length / 2 = h at *
  have hW : ((w.alloc (.cells #[.nilIface, .string ⟨#[]⟩, .nilIface] 107)).drewN nq).heap[w.heap.size]? = some (.cells #[.nilIface, .string ⟨#[]⟩, .nilIface] 107 (0, 0)) := heap_alloc_new w _
  have hWB : Below w.heap.size w ((w.alloc (.cells #[.nilIface, .string ⟨#[]⟩, .nilIface] 107)).drewN nq) := pw_below_drewN ((Below.refl _ w).alloc (Nat.le_refl _) _) nq
  generalize (w.alloc (.cells #[.nilIface, .string ⟨#[]⟩, .nilIface] 107)).drewN nq = W0 at *
  have y0 : W0.cell? ⟨b, 0, none⟩ = some (.slice (some ad) l.length c) := (hWB.cell (p := ⟨b, 0, none⟩) hlt2).trans x0
  have y1 : W0.cell? ⟨b, 1, none⟩ = some (.slice (some ad') l.length c') := (hWB.cell (p := ⟨b, 1, none⟩) hlt2).trans x1
  have hch : ¬ (c = h) := by omega
  have hch' : ¬ (c' = h) := by omega
  have HW := Aside0.mk hW
  have HWB := Aside0.mk hWB
  have hhl : h ≤ l.length := by omega
  have hl71 : ((((l.map S59.f0).map Value.string).drop h)).length = l.length - h := by simp
  have hl70 : ((((l.map S59.f1).map (Value.int .i64)).drop h)).length = l.length - h := by simp
  have HC1 : Aside0 (∀ W, Below W0.heap.size W0 W → Calls Try.prog 71 #[.slice (some (ad.add h)) (l.length - h) (c - h)] W fun e w' => ∃ v', e = .returned v' ∧ w'.ownsRow W.heap.size 9 1 v' (l.length - h) (((l.map S59.f0).map Value.string).drop h) ∧ Below W.heap.size W w') :=
    ⟨fun W hW => clone_str _ _ _ _ W (fun _ => ⟨_, rfl, cells_drop (cells_later HKA.out (below_go hW HWB.out)) h⟩) hl71 (by omega) (fun u hu => by
      obtain ⟨x, _, rfl⟩ := List.mem_map.1 (List.mem_of_mem_drop hu); rfl)⟩
  have HC2 : Aside0 (∀ W, Below W0.heap.size W0 W → Calls Try.prog 70 #[.slice (some (ad'.add h)) (l.length - h) (c' - h)] W fun e w' => ∃ v', e = .returned v' ∧ w'.ownsRow W.heap.size 2 1 v' (l.length - h) (((l.map S59.f1).map (Value.int .i64)).drop h) ∧ Below W.heap.size W w') :=
    ⟨fun W hW => clone_int _ _ _ _ W (fun _ => ⟨_, rfl, cells_drop (cells_later HVA.out (below_go hW HWB.out)) h⟩) hl70 (by omega) (fun u hu => by
      obtain ⟨x, _, rfl⟩ := List.mem_map.1 (List.mem_of_mem_drop hu); rfl)⟩
  have HSK : Aside0 (∀ W, Below W0.heap.size W0 W → W.cell? ⟨b, 0, none⟩ = some (.slice (some ad) l.length c) ∧ W.cell? ⟨b, 1, none⟩ = some (.slice (some ad') l.length c') ∧ Below W0.heap.size W0 W) :=
    ⟨fun W hW => ⟨pw_cell_below hW y0, pw_cell_below hW y1, hW⟩⟩
  clear x0 x1 h0 hW hWB hl71 hl70
  go_region_held3 (fun w' => w'.cell? ⟨b, 0, none⟩ = some (.slice (some ad) l.length c) ∧ w'.cell? ⟨b, 1, none⟩ = some (.slice (some ad') l.length c') ∧ Below W0.heap.size W0 w') (exact HSK.out _ (by repeat (first | assumption | exact Below.refl _ _ | refine below_drew ?_ | refine below_mk ?_ _))) (first | (go_at_call 71; refine (HC1.out _ (And.right (And.right (by assumption)))).mono ?_; rintro e w1 ⟨v1, rfl, ho1, hb1⟩; obtain ⟨g1, c1, _, rfl, _, _, hc1, hc1m, _, _⟩ := row_parts_str ho1 (by omega); have hBn' := below_go hb1 (And.right (And.right (by assumption))); (try (have HOv1 := Aside0.mk (pw_own_below HOv.out hb1); clear HOv; have HOv := HOv1; clear HOv1)); have HOk := Aside0.mk ho1; clear ho1 hb1) | (go_at_call 70; refine (HC2.out _ (And.right (And.right (by assumption)))).mono ?_; rintro e w1 ⟨v1, rfl, ho1, hb1⟩; obtain ⟨g2, c2, _, rfl, _, _, hc2, hc2m, _, _⟩ := row_parts_int ho1 (by omega); have hBn := below_go hb1 (And.right (And.right (by assumption))); (try (have HOk1 := Aside0.mk (pw_own_below HOk.out hb1); clear HOk; have HOk := HOk1; clear HOk1)); have HOv := Aside0.mk ho1; clear ho1 hb1))
  go_wp2
  have hB4 : Below W0.heap.size W0 (w1.alloc (.cells #[.slice (some ⟨g1, 0, none⟩) (l.length - h) c1, .slice (some ⟨g2, 0, none⟩) (l.length - h) c2] 85)) := below_mk hBn _
  have hH4 : (w1.alloc (.cells #[.slice (some ⟨g1, 0, none⟩) (l.length - h) c1, .slice (some ⟨g2, 0, none⟩) (l.length - h) c2] 85)).heap[w1.heap.size]? = some (.cells #[.slice (some ⟨g1, 0, none⟩) (l.length - h) c1, .slice (some ⟨g2, 0, none⟩) (l.length - h) c2] 85 (0, 0)) := heap_alloc_new w1 _
  have hk4 := HOk.out.alloc (.cells #[.slice (some ⟨g1, 0, none⟩) (l.length - h) c1, .slice (some ⟨g2, 0, none⟩) (l.length - h) c2] 85)
  have hv4 := HOv.out.alloc (.cells #[.slice (some ⟨g1, 0, none⟩) (l.length - h) c1, .slice (some ⟨g2, 0, none⟩) (l.length - h) c2] 85)
  have hrb : W0.heap.size ≤ w1.heap.size := hBn.size
  generalize w1.alloc (.cells #[.slice (some ⟨g1, 0, none⟩) (l.length - h) c1, .slice (some ⟨g2, 0, none⟩) (l.length - h) c2] 85) = W4 at *
  generalize w1.heap.size = rb at *
  have hgk := own_base hk4 _ rfl
  have hgv := own_base hv4 _ rfl
  have z0 : W4.cell? ⟨rb, 0, none⟩ = some (.slice (some ⟨g1, 0, none⟩) (l.length - h) c1) := (blk_cell hH4 0).trans rfl
  have z1 : W4.cell? ⟨g1, 0, none⟩ = some (.string l[h].f0) := by
    rw [hk4.cellAt 0 (by omega), List.getElem?_drop, List.getElem?_map, List.getElem?_map, Nat.add_zero, List.getElem?_eq_getElem hh2]
    rfl
  have yb0 := pw_cell_below hB4 y0
  have yb1 := pw_cell_below hB4 y1
  have hgd : (l.getD h z59).f0 = l[h].f0 := by rw [List.getD_eq_getElem?_getD, List.getElem?_eq_getElem hh2]; rfl
  have HGD := Aside0.mk hgd
  generalize l[h].f0 = mid at *
  have HC3 : Aside0 (∀ W, Below w.heap.size w W → Calls Try.prog 71 #[.slice (some ad) h c] W fun e w' => ∃ v', e = .returned v' ∧ w'.ownsRow W.heap.size 9 1 v' h (((l.map S59.f0).map Value.string).take h) ∧ Below W.heap.size W w') :=
    ⟨fun W hW => clone_str _ _ _ _ W (fun _ => ⟨_, rfl, cells_take (cells_later HKA.out hW) h⟩) (by simp; omega) (by omega) (fun u hu => by
      obtain ⟨x, _, rfl⟩ := List.mem_map.1 (List.mem_of_mem_take hu); rfl)⟩
  have HC4 : Aside0 (∀ W, Below w.heap.size w W → Calls Try.prog 70 #[.slice (some ad') h c'] W fun e w' => ∃ v', e = .returned v' ∧ w'.ownsRow W.heap.size 2 1 v' h (((l.map S59.f1).map (Value.int .i64)).take h) ∧ Below W.heap.size W w') :=
    ⟨fun W hW => clone_int _ _ _ _ W (fun _ => ⟨_, rfl, cells_take (cells_later HVA.out hW) h⟩) (by simp; omega) (by omega) (fun u hu => by
      obtain ⟨x, _, rfl⟩ := List.mem_map.1 (List.mem_of_mem_take hu); rfl)⟩
  have hrs : w.heap.size < W4.heap.size := Nat.lt_of_lt_of_le (blk_lt HW.out) hB4.size
  have hrs0 : w.heap.size < W0.heap.size := blk_lt HW.out
  have HRB : Aside0 (ResBox w.heap.size W4) := ⟨(hB4.block _ (blk_lt HW.out)).trans HW.out⟩
  have hcl1 : h ≤ c := by omega
  have hcl2 : h ≤ c' := by omega
  have HOLD : Aside0 (Below w.heap.size w W4) := ⟨below_go hB4 HWB.out⟩
  have HSK4 : Aside0 (∀ W, W4.grownBy W (some w.heap.size) → W.cell? ⟨b, 0, none⟩ = some (.slice (some ad) l.length c) ∧ W.cell? ⟨b, 1, none⟩ = some (.slice (some ad') l.length c') ∧ W.cell? ⟨rb, 0, none⟩ = some (.slice (some ⟨g1, 0, none⟩) (l.length - h) c1) ∧ W.cell? ⟨g1, 0, none⟩ = some (.string mid) ∧ W4.grownBy W (some w.heap.size)) :=
    ⟨fun W hW => ⟨hW.cell yb0 (fun e => by injection e with e; exact absurd e (Nat.ne_of_lt hlt2)), hW.cell yb1 (fun e => by injection e with e; exact absurd e (Nat.ne_of_lt hlt2)), hW.cell z0 (fun e => by injection e with e; have : rb = w.heap.size := e; omega), hW.cell z1 (fun e => by injection e with e; have : g1 = w.heap.size := e; have : W0.heap.size ≤ g1 := hgk; omega), hW⟩⟩
  have HB4 := Aside0.mk hB4
  have HH4 := Aside0.mk hH4
  have HK4 := Aside0.mk hk4
  have HV4 := Aside0.mk hv4
  have hpos : 0 < l.length - h := by omega
  have HGK := Aside0.mk hgk
  have HGV := Aside0.mk hgv
  clear y0 y1 yb0 yb1 z0 z1 hB4 hH4 hk4 hv4 HOk HOv HC1 HC2 HSK hBn hgd hgk hgv
  go_region_held3 (fun w' => w'.cell? ⟨b, 0, none⟩ = some (.slice (some ad) l.length c) ∧ w'.cell? ⟨b, 1, none⟩ = some (.slice (some ad') l.length c') ∧ w'.cell? ⟨rb, 0, none⟩ = some (.slice (some ⟨g1, 0, none⟩) (l.length - h) c1) ∧ w'.cell? ⟨g1, 0, none⟩ = some (.string mid) ∧ W4.grownBy w' (some w.heap.size)) (exact HSK4.out _ (by repeat (first | assumption | exact grownBy_refl _ _ | refine grownBy_drew ?_ | refine gb_alloc ?_ _ | refine gb_set ?_ _ _))) (first | (go_at_call 71; refine (HC3.out _ (gb_old HOLD.out (And.right (And.right (And.right (And.right (by assumption))))))).mono ?_; rintro e w2 ⟨v3, rfl, ho1, hb1⟩; obtain ⟨g3, c3, _, rfl, _, _, hc3, hc3m, _, _⟩ := row_parts_str ho1 (by omega); have hBn := gb_below hb1 (And.right (And.right (And.right (And.right (by assumption))))); have HRB2 : Aside0 (ResBox w.heap.size w2) := ⟨(hb1.block _ hrs).trans HRB.out⟩; have hrs2 : w.heap.size < w2.heap.size := Nat.lt_of_lt_of_le hrs hb1.size; have HOk := Aside0.mk ho1; clear ho1 hb1) | (go_at_call 70; refine (HC4.out _ (gb_old HOLD.out (And.right (And.right (And.right (And.right (by assumption))))))).mono ?_; rintro e w3 ⟨v4, rfl, ho1, hb1⟩; obtain ⟨g4, c4, _, rfl, _, _, hc4, hc4m, _, _⟩ := row_parts_int ho1 (by omega); have hBn3 := gb_below hb1 (And.right (And.right (And.right (And.right (by assumption))))); (have HOk1 := Aside0.mk (pw_own_below HOk.out hb1); clear HOk; have HOk := HOk1; clear HOk1); have HOv := Aside0.mk ho1; obtain ⟨⟨q0, q1, q2⟩, p0, p1, p2⟩ := ResBox.cells ((hb1.block _ hrs2).trans HRB2.out); have hrs3 : w.heap.size < w3.heap.size := Nat.lt_of_lt_of_le hrs2 hb1.size; clear ho1 hb1))
  go_wp2
  refine bodyPost_ret (v := .agg #[.iface 82 (.pointer (some ⟨w3.heap.size, 0, none⟩)), .string mid, .iface 82 (.pointer (some ⟨rb, 0, none⟩))]) (by simp [results, Try.results58, go_sem, q0, q1, q2, hrs3]) rfl ?_
  have hG3 : w3.grownBy ((((w3.setCell ⟨w.heap.size, 0, none⟩ (.iface 82 (.pointer (some ⟨w3.heap.size, 0, none⟩)))).setCell ⟨w.heap.size, 1, none⟩ (.string mid)).setCell ⟨w.heap.size, 2, none⟩ (.iface 82 (.pointer (some ⟨rb, 0, none⟩)))).alloc (.cells #[.slice (some ⟨g3, 0, none⟩) h c3, .slice (some ⟨g4, 0, none⟩) h c4] 85)) (some w.heap.size) := gb_alloc (gb_set (gb_set (gb_set (grownBy_refl _ _) _ _) _ _) _ _) _
  have hH3 := heap_alloc_new (((w3.setCell ⟨w.heap.size, 0, none⟩ (.iface 82 (.pointer (some ⟨w3.heap.size, 0, none⟩)))).setCell ⟨w.heap.size, 1, none⟩ (.string mid)).setCell ⟨w.heap.size, 2, none⟩ (.iface 82 (.pointer (some ⟨rb, 0, none⟩)))) (.cells #[.slice (some ⟨g3, 0, none⟩) h c3, .slice (some ⟨g4, 0, none⟩) h c4] 85)
  simp only [World.size_setCell] at hH3
  generalize ((((w3.setCell ⟨w.heap.size, 0, none⟩ (.iface 82 (.pointer (some ⟨w3.heap.size, 0, none⟩)))).setCell ⟨w.heap.size, 1, none⟩ (.string mid)).setCell ⟨w.heap.size, 2, none⟩ (.iface 82 (.pointer (some ⟨rb, 0, none⟩)))).alloc (.cells #[.slice (some ⟨g3, 0, none⟩) h c3, .slice (some ⟨g4, 0, none⟩) h c4] 85)) = Wf at *
  have hG := grownBy_trans hBn3 hG3
  have e1 : ((l.map S59.f0).map Value.string).take h = ((l.take h).map S59.f0).map Value.string := by rw [List.map_take, List.map_take]
  have e2 : ((l.map S59.f1).map (Value.int .i64)).take h = ((l.take h).map S59.f1).map (Value.int .i64) := by rw [List.map_take, List.map_take]
  have e3 : ((l.map S59.f0).map Value.string).drop h = ((l.drop h).map S59.f0).map Value.string := by rw [List.map_drop, List.map_drop]
  have e4 : ((l.map S59.f1).map (Value.int .i64)).drop h = ((l.drop h).map S59.f1).map (Value.int .i64) := by rw [List.map_drop, List.map_drop]
  have ok1 := own_kept HOk.out hG3 hrs
  have ov1 := own_kept HOv.out hG3 hrs2
  have ok2 := own_kept HK4.out hG hrs0
  have ov2 := own_kept HV4.out hG (Nat.lt_of_lt_of_le hrs0 hBn'.size)
  rw [e1] at ok1
  rw [e2] at ov1
  rw [e3] at ok2
  rw [e4] at ov2
  have hBf := gb_old HOLD.out hG
  refine ⟨hBf, _, _, by rw [HGD.out], ?_, ?_⟩
  · exact leaf_fin hok (Nat.le_of_lt hrs3) hH3 ok1 ov1 (Nat.le_of_lt hrs) (Nat.le_of_lt hrs2)
  · refine leaf_fin hok (Nat.le_trans (Nat.le_of_lt hrs0) hrb) ((hG.block rb (blk_lt HH4.out) (fun e => ?_)).trans HH4.out) ok2 ov2 (Nat.le_of_lt hrs0) (Nat.le_trans (Nat.le_of_lt hrs0) hBn'.size)
    injection e with e
    omega

end Go.Proofs.Ytjabcdfbncglnaa
namespace Go.Proofs.Ytjabcdfbncglnaa
open Go.RowKit Go.Proofs.YtjabcdfbncglnaaW.PrintWords Go.Proofs.YtjabcdfbncglnaaW.PrintLast Go.Proofs.YtjabcdfbncglnaaW.PrintMore
open PTreeRanks (S59 k59 z59)
set_option linter.unusedVariables false
set_option linter.unusedSimpArgs false

def halveT {d : Nat} (order : Nat) (ks : List ByteArray) (cs : List (T d)) : (List ByteArray × List (T d)) × Option (ByteArray × (List ByteArray × List (T d))) :=
  if cs.length ≤ order then ((ks, cs), none) else ((ks.take (cs.length / 2 - 1), cs.take (cs.length / 2)), some (ks.getD (cs.length / 2 - 1) ByteArray.empty, (ks.drop (cs.length / 2), cs.drop (cs.length / 2))))

theorem Elems_below {α : Type} {d : Kd α} {w W : World} {ok : Nat → Prop} {cs : List α} {vs : List Value} (h : Elems (RM d w ok) cs vs) (hb : Below w.heap.size w W) : Elems (RM d W ok) cs vs :=
  h.imp fun _ _ hm => M_below' hm hb

/-- What lies in a world lies in none of the blocks to come. -/
theorem FRow_off {α : Type} {d : Kd α} {e : Nat} {w : World} {ok : Nat → Prop} {v : Value} {xs : List α} (h : FRow d e w 0 ok v xs) : FRow d e w 0 (fun k => ok k ∧ k ≠ w.heap.size) v xs :=
  FRow_mono (fun k hk => ⟨hk.1, Nat.ne_of_lt hk.2.2.1⟩) (FRow_bound h)
theorem M_off {α : Type} {d : Kd α} {w : World} {ok : Nat → Prop} {x : α} {cs : List Value} (h : d.M w 0 ok x cs) : d.M w 0 (fun k => ok k ∧ k ≠ w.heap.size) x cs :=
  d.M_mono (fun k hk => ⟨hk.1, Nat.ne_of_lt hk.2.2.1⟩) (d.M_bound h)
theorem M_on {α : Type} {d : Kd α} {w W : World} {r : Nat} {ok : Nat → Prop} {x : α} {cs : List Value} (h : d.M w 0 (fun k => ok k ∧ k ≠ r) x cs) (hg : w.grownBy W (some r)) : d.M W 0 ok x cs :=
  d.M_mono (fun k hk => hk.1) (Kd.M_step h (fun k hk hlt => hg.block k hlt (fun e => hk.2 (by injection e))))
theorem gb_split {W : World} {r : Nat} (a b c : Value) : W.grownBy (((W.setCell ⟨r, 0, none⟩ a).setCell ⟨r, 1, none⟩ b).setCell ⟨r, 2, none⟩ c) (some r) := gb_set (gb_set (gb_set (grownBy_refl _ _) _ _) _ _) _ _

set_option maxRecDepth 100000 in
set_option maxHeartbeats 4000000 in
theorem halve_keep {d : Nat} {ks : List ByteArray} {cs : List (T d)} {kv cv : Value} {w : World} {ok : Nat → Prop} {bt order : Nat} (h0 : w.cell? ⟨bt, 0, none⟩ = some (.int .i64 order)) (hk : SRow w 0 ok kv ks) (hc : CRow d w 0 ok cv cs) (hok : ∀ k, w.heap.size ≤ k → ok k)
    (hsz : sizes cs ≤ 1099511627776) (hl : cs.length ≤ order) :
    Calls Try.prog 62 #[.pointer (some ⟨bt, 0, none⟩), kv, cv] w (SplitPost (d + 1) ((ks, cs), none) ok w) := by
  obtain ⟨A', c', rfl, hcc, hcC⟩ := FRow_reads hc
  have hB1 : Below w.heap.size w (w.alloc (.cells #[.nilIface, .string ⟨#[]⟩, .nilIface] 107)) := (Below.refl _ w).alloc (Nat.le_refl _) _
  have HN := Aside0.mk (newInner_calls (w := w.alloc (.cells #[.nilIface, .string ⟨#[]⟩, .nilIface] 107)) (FRow_below (FRow_off hk) hB1) (FRow_below (FRow_off hc) hB1) (fun k h => ⟨hok k (by simp at h; omega), by simp at h; omega⟩) hsz)
  have HB1 := Aside0.mk hB1
  have hdec : decide (cs.length ≤ order) = true := decide_eq_true hl
  have hlt1 : bt < w.heap.size := World.block_lt_of_cell? w ⟨bt, 0, none⟩ h0
  have hlm := hcC.2.1
  have HR : Aside0 (ResBox w.heap.size (w.alloc (.cells #[.nilIface, .string ⟨#[]⟩, .nilIface] 107))) := ⟨heap_alloc_new w _⟩
  clear hk hc hcC hB1
  go_enter Try.func62, Try.ntmps62
  go_wp2_with fail
  refine HN.out.mono ?_
  rintro e w' ⟨b, rfl, hb, hM, hBn⟩
  obtain ⟨⟨q0, q1, q2⟩, p0, p1, p2⟩ := ResBox.cells ((hBn.block w.heap.size (by simp)).trans HR.out)
  have HM := Aside0.mk hM
  have HBn := Aside0.mk hBn
  have hrs : w.heap.size < w'.heap.size := by have := hBn.size; simp at this; omega
  have hb2 : w.heap.size < b := by simp at hb; omega
  clear hM hBn hb
  go_wp2
  refine bodyPost_ret (v := .agg #[.iface 78 (.pointer (some ⟨b, 0, none⟩)), .string ⟨#[]⟩, .nilIface]) (by simp [results, Try.results62, go_sem, q0, q1, q2]) rfl ?_
  exact ⟨gb_old (below_then HB1.out (by simp) HBn.out) (gb_split _ _ _), _, rfl, M_on HM.out (gb_split _ _ _)⟩


set_option maxRecDepth 100000 in
set_option maxHeartbeats 8000000 in
theorem halve_split {d : Nat} {ks : List ByteArray} {cs : List (T d)} {kv cv : Value} {w : World} {ok : Nat → Prop} {bt order : Nat} (h0 : w.cell? ⟨bt, 0, none⟩ = some (.int .i64 order)) (hk : SRow w 0 ok kv ks) (hc : CRow d w 0 ok cv cs) (hok : ∀ k, w.heap.size ≤ k → ok k)
    (hsz : sizes cs ≤ 1099511627776) (hl : ¬ cs.length ≤ order) (hl1 : cs.length = ks.length + 1) (hl2 : 3 ≤ cs.length) (hl3 : cs.length ≤ 1000) :
    Calls Try.prog 62 #[.pointer (some ⟨bt, 0, none⟩), kv, cv] w (SplitPost (d + 1) (halveT order ks cs) ok w) := by
  rw [halveT, if_neg hl]
  have hk' := FRow_off hk
  have hc' := FRow_off hc
  obtain ⟨hko, hkb⟩ := SRow_own hk'
  obtain ⟨vs, hvo, hve, hvb⟩ := CRow_own hc'
  obtain ⟨A, c, rfl, hkc, hkc2, _, hkA⟩ := own_cells hko
  obtain ⟨A', c', rfl, hvc, hvc2, hvl, hvA⟩ := own_cells hvo
  obtain ⟨ad, rfl, hkA1⟩ := hkA (by omega)
  obtain ⟨ad', rfl, hvA1⟩ := hvA (by omega)
  have HOK : Aside0 (∀ k, w.heap.size < k → ok k ∧ k ≠ w.heap.size) := ⟨fun k h => ⟨hok k (Nat.le_of_lt h), by omega⟩⟩
  have hone : ∀ u ∈ vs, u.oneCell' = true := fun u hu => by
    obtain ⟨t, _, ht⟩ := hve.mem hu
    exact NK_one ((NK d).K_of_M ht)
  obtain ⟨m, hm⟩ : ∃ m, cs.length / 2 = m + 1 := ⟨cs.length / 2 - 1, by omega⟩
  have hdiv : ((cs.length : Int) / 2) = (m : Int) + 1 := by omega
  have hm1 : m + 1 < cs.length := by omega
  have hdec : decide (cs.length ≤ order) = false := decide_eq_false hl
  have hlt1 : bt < w.heap.size := World.block_lt_of_cell? w ⟨bt, 0, none⟩ h0
  have hlm : cs.length ≤ 9223372036854775807 := by omega
  have hsz1 : sizes (cs.take (m + 1)) ≤ 1099511627776 := by
    have : sizes (cs.take (m + 1)) + sizes (cs.drop (m + 1)) = sizes cs := by unfold sizes; rw [← List.sum_append, ← List.map_append, List.take_append_drop]
    omega
  have hsz2 : sizes (cs.drop (m + 1)) ≤ 1099511627776 := by
    have : sizes (cs.take (m + 1)) + sizes (cs.drop (m + 1)) = sizes cs := by unfold sizes; rw [← List.sum_append, ← List.map_append, List.take_append_drop]
    omega
  have hmid : ks[m]? = some (ks[m]'(by omega)) := List.getElem?_eq_getElem _
  have hgd : ks.getD m ByteArray.empty = ks[m]'(by omega) := by rw [List.getD_eq_getElem?_getD, hmid]; rfl
  have hcm : w.cell? (ad.add m) = some (.string (ks[m]'(by omega))) := hkA1 m _ (by rw [List.getElem?_map, hmid]; rfl)
  rw [hm, Nat.add_sub_cancel, hgd]
  generalize ks[m]'(by omega) = mid at *
  have HKA := Aside0.mk hkA1
  have HVA := Aside0.mk hvA1
  have HVE := Aside0.mk hve
  have HONE := Aside0.mk hone
  have HDIV := Aside0.mk hdiv
  have HVL := Aside0.mk hvl
  have HCM := Aside0.mk hcm
  have HL1 := Aside0.mk hl1
  have hwm : IntKind.i64.wrap (m : Int) = (m : Int) := by rw [IntKind.wrap_i64]; omega
  have hW : (w.alloc (.cells #[.nilIface, .string ⟨#[]⟩, .nilIface] 107)).heap[w.heap.size]? = some (.cells #[.nilIface, .string ⟨#[]⟩, .nilIface] 107 (0, 0)) := heap_alloc_new w _
  have hWB : Below w.heap.size w (w.alloc (.cells #[.nilIface, .string ⟨#[]⟩, .nilIface] 107)) := (Below.refl _ w).alloc (Nat.le_refl _) _
  have HWB := Aside0.mk hWB
  have HW := Aside0.mk hW
  -- the contracts in whatever later world
  have HC1 : Aside0 (∀ W, Below w.heap.size w W → Calls Try.prog 71 #[.slice (some ad) m c] W fun e w' => ∃ v', e = .returned v' ∧ w'.ownsRow W.heap.size 9 1 v' m ((ks.take m).map .string) ∧ Below W.heap.size W w') :=
    ⟨fun W hW => by rw [List.map_take]; exact clone_str _ _ _ _ W (fun _ => ⟨_, rfl, cells_take (cells_later HKA.out hW) m⟩) (by simp; omega) (by omega) (fun u hu => by
      obtain ⟨x, _, rfl⟩ := List.mem_map.1 (List.mem_of_mem_take hu); rfl)⟩
  have HC2 : Aside0 (∀ W, Below w.heap.size w W → Calls Try.prog 74 #[.slice (some ad') (m + 1) c'] W fun e w' => ∃ v', e = .returned v' ∧ w'.ownsRow W.heap.size 69 1 v' (m + 1) (vs.take (m + 1)) ∧ Below W.heap.size W w') :=
    ⟨fun W hW => clone_node _ _ _ _ W (fun _ => ⟨_, rfl, cells_take (cells_later HVA.out hW) _⟩) (by simp; omega) (by omega) (fun u hu => HONE.out u (List.mem_of_mem_take hu))⟩
  have HC3 : Aside0 (∀ W, Below w.heap.size w W → Calls Try.prog 71 #[.slice (some (ad.add (m + 1))) (ks.length - (m + 1)) (c - (m + 1))] W fun e w' => ∃ v', e = .returned v' ∧ w'.ownsRow W.heap.size 9 1 v' (ks.length - (m + 1)) ((ks.drop (m + 1)).map .string) ∧ Below W.heap.size W w') :=
    ⟨fun W hW => by rw [List.map_drop]; exact clone_str _ _ _ _ W (fun _ => ⟨_, rfl, cells_drop (cells_later HKA.out hW) _⟩) (by simp) (by omega) (fun u hu => by
      obtain ⟨x, _, rfl⟩ := List.mem_map.1 (List.mem_of_mem_drop hu); rfl)⟩
  have HC4 : Aside0 (∀ W, Below w.heap.size w W → Calls Try.prog 74 #[.slice (some (ad'.add (m + 1))) (cs.length - (m + 1)) (c' - (m + 1))] W fun e w' => ∃ v', e = .returned v' ∧ w'.ownsRow W.heap.size 69 1 v' (cs.length - (m + 1)) (vs.drop (m + 1)) ∧ Below W.heap.size W w') :=
    ⟨fun W hW => clone_node _ _ _ _ W (fun _ => ⟨_, rfl, cells_drop (cells_later HVA.out hW) _⟩) (by simp; omega) (by omega) (fun u hu => HONE.out u (List.mem_of_mem_drop hu))⟩
  have HN1 : Aside0 (∀ (W : World) (v1 v2 : Value) (b1 b2 n1 n2 : Nat), Below w.heap.size w W → w.heap.size < W.heap.size → w.heap.size < b1 → w.heap.size < b2 → W.ownsRow b1 9 1 v1 n1 ((ks.take m).map .string) → W.ownsRow b2 69 1 v2 n2 (vs.take (m + 1)) → Calls Try.prog 49 #[v1, v2] W (InnerPost d (ks.take m) (cs.take (m + 1)) (fun k => ok k ∧ k ≠ w.heap.size) W)) :=
    ⟨fun W v1 v2 b1 b2 n1 n2 hW hs hb1 hb2 h1 h2 => newInner_calls (SRow_mk h1 (fun k h => HOK.out k (by omega))) (CRow_mk h2 (Elems_below (HVE.out.take _) hW) (fun k h => HOK.out k (by omega))) (fun k h => HOK.out k (by omega)) hsz1⟩
  have HN2 : Aside0 (∀ (W : World) (v1 v2 : Value) (b1 b2 n1 n2 : Nat), Below w.heap.size w W → w.heap.size < W.heap.size → w.heap.size < b1 → w.heap.size < b2 → W.ownsRow b1 9 1 v1 n1 ((ks.drop (m + 1)).map .string) → W.ownsRow b2 69 1 v2 n2 (vs.drop (m + 1)) → Calls Try.prog 49 #[v1, v2] W (InnerPost d (ks.drop (m + 1)) (cs.drop (m + 1)) (fun k => ok k ∧ k ≠ w.heap.size) W)) :=
    ⟨fun W v1 v2 b1 b2 n1 n2 hW hs hb1 hb2 h1 h2 => newInner_calls (SRow_mk h1 (fun k h => HOK.out k (by omega))) (CRow_mk h2 (Elems_below (HVE.out.drop _) hW) (fun k h => HOK.out k (by omega))) (fun k h => HOK.out k (by omega)) hsz2⟩
  have hrs : w.heap.size < (w.alloc (.cells #[.nilIface, .string ⟨#[]⟩, .nilIface] 107)).heap.size := by simp
  have hmc : m ≤ c := by omega
  have hmc1 : m + 1 ≤ c' := by omega
  have hmk : m + 1 < ks.length := by omega
  have hmk2 : m < ks.length := by omega
  have hmk3 : m + 1 ≤ ks.length := by omega
  have hch : ¬ (c = m + 1) := by omega
  have hI1 : (m : Int) + 1 ≤ (c' : Int) := by omega
  have hI2 : (0 : Int) ≤ (m : Int) + 1 := by omega
  have hI3 : ((m : Int) + 1).toNat = m + 1 := by omega
  have hI4 : (m : Int) + 1 ≤ (ks.length : Int) := by omega
  have hI5 : (m : Int) + 1 ≤ (cs.length : Int) := by omega
  have hch' : ¬ (c' = m + 1) := by omega
  clear hk hc hk' hc' hko hvo hkA hvA hkA1 hvA1 hve hone hdiv hvl hcm hm hmid hgd hsz hsz1 hsz2 hW hWB hl1 hok hkb hvb
  go_enter Try.func62, Try.ntmps62
  go_wp2
  rw [HDIV.out]
  clear HDIV
  generalize w.alloc (.cells #[.nilIface, .string ⟨#[]⟩, .nilIface] 107) = W0 at *
  go_region_held3 (fun w' => Below W0.heap.size W0 w') (repeat (first | assumption | exact Below.refl _ _ | refine below_drew ?_ | refine below_mk ?_ _)) (first | (go_at_call 71; refine (HC1.out _ (below_go (by assumption) HWB.out)).mono ?_; rintro e w1 ⟨v1, rfl, ho1, hb1⟩; obtain ⟨A1, c1, rfl, _, hc1m, _, _⟩ := own_cells ho1; have hBn1 := below_go hb1 (by assumption); have HOk := Aside0.mk ho1; clear ho1 hb1) | (go_at_call 74; refine (HC2.out _ (below_go (by assumption) HWB.out)).mono ?_; rintro e w2 ⟨v2, rfl, ho1, hb1⟩; obtain ⟨A2, c2, rfl, _, hc2m, _, _⟩ := own_cells ho1; have hBn2 := below_go hb1 (by assumption); (have HOk1 := Aside0.mk (pw_own_below HOk.out hb1); clear HOk; have HOk := HOk1; clear HOk1); have HOc := Aside0.mk ho1; clear ho1 hb1) | (go_at_call 49; refine (HN1.out _ _ _ _ _ _ _ (below_go (by assumption) HWB.out) (Nat.lt_of_lt_of_le hrs (Below.size (by assumption))) hrs (Nat.lt_of_lt_of_le hrs hBn1.size) HOk.out HOc.out).mono ?_; rintro e w3 ⟨lb, rfl, hlb, hM, hb1⟩; have hBn3 := below_go hb1 (by assumption); have HM := Aside0.mk hM; clear hM hb1))
  go_wp2
  have HB3 := Aside0.mk (below_go hBn3 HWB.out)
  have hrs3 : w.heap.size < w3.heap.size := Nat.lt_of_lt_of_le hrs hBn3.size
  have HRB3 : Aside0 (ResBox w.heap.size w3) := ⟨(hBn3.block _ hrs).trans HW.out⟩
  have y0 := pw_cell_below HB3.out HCM.out
  have HSK : Aside0 (∀ W, w3.grownBy W (some w.heap.size) → W.cell? (ad.add m) = some (.string mid) ∧ w3.grownBy W (some w.heap.size)) :=
    ⟨fun W hW => ⟨hW.cell y0 (fun e => by
      injection e with e
      have := World.block_lt_of_cell? w _ HCM.out
      rw [e] at this
      omega), hW⟩⟩
  have hlbm := hlb
  clear y0 hBn1 hBn2 hBn3 HOk HOc HC1 HC2 HN1 h0
  go_region_held3 (fun w' => w'.cell? (ad.add m) = some (.string mid) ∧ w3.grownBy w' (some w.heap.size)) (exact HSK.out _ (by repeat (first | assumption | exact grownBy_refl _ _ | refine grownBy_drew ?_ | refine gb_alloc ?_ _ | refine gb_set ?_ _ _))) (first | (go_at_call 71; refine (HC3.out _ (gb_old HB3.out (And.right (by assumption)))).mono ?_; rintro e w4 ⟨v4, rfl, ho1, hb1⟩; obtain ⟨A4, c4, rfl, _, hc4m, _, _⟩ := own_cells ho1; have hBn4 := gb_below hb1 (And.right (by assumption)); have HRB4 : Aside0 (ResBox w.heap.size w4) := ⟨(hb1.block _ hrs3).trans HRB3.out⟩; have hrs4 : w.heap.size < w4.heap.size := Nat.lt_of_lt_of_le hrs3 hb1.size; have HOk := Aside0.mk ho1; clear ho1 hb1) | (go_at_call 74; refine (HC4.out _ (gb_old HB3.out (And.right (by assumption)))).mono ?_; rintro e w5 ⟨v5, rfl, ho1, hb1⟩; obtain ⟨A5, c5, rfl, _, hc5m, _, _⟩ := own_cells ho1; have hBn5 := gb_below hb1 (And.right (by assumption)); have HRB5 : Aside0 (ResBox w.heap.size w5) := ⟨(hb1.block _ hrs4).trans HRB4.out⟩; have hrs5 : w.heap.size < w5.heap.size := Nat.lt_of_lt_of_le hrs4 hb1.size; (have HOk1 := Aside0.mk (pw_own_below HOk.out hb1); clear HOk; have HOk := HOk1; clear HOk1); have HOc := Aside0.mk ho1; clear ho1 hb1) | (go_at_call 49; refine (HN2.out _ _ _ _ _ _ _ (gb_old HB3.out hBn5) hrs5 hrs3 hrs4 HOk.out HOc.out).mono ?_; rintro e w6 ⟨rb, rfl, hrb, hM2, hb1⟩; have hBn6 := gb_below hb1 hBn5; obtain ⟨⟨q0, q1, q2⟩, p0, p1, p2⟩ := ResBox.cells ((hb1.block _ hrs5).trans HRB5.out); have hrs6 : w.heap.size < w6.heap.size := Nat.lt_of_lt_of_le hrs5 hb1.size; have HM2 := Aside0.mk hM2; clear hM2 hb1))
  go_wp2
  refine bodyPost_ret (v := .agg #[.iface 78 (.pointer (some ⟨lb, 0, none⟩)), .string mid, .iface 78 (.pointer (some ⟨rb, 0, none⟩))]) (by simp [results, Try.results62, go_sem, q0, q1, q2]) rfl ?_
  exact ⟨gb_old HB3.out (grownBy_trans hBn6 (gb_split _ _ _)), _, _, rfl, M_on HM.out (grownBy_trans hBn6 (gb_split _ _ _)), M_on HM2.out (gb_split _ _ _)⟩

end Go.Proofs.Ytjabcdfbncglnaa
namespace Go.Proofs.Ytjabcdfbncglnaa
open Go.RowKit Go.Proofs.YtjabcdfbncglnaaW.PrintWords Go.Proofs.YtjabcdfbncglnaaW.PrintLast Go.Proofs.YtjabcdfbncglnaaW.PrintMore
open PTreeRanks (S59 k59 z59)
set_option linter.unusedVariables false
set_option linter.unusedSimpArgs false

def putLeaf (order : Nat) (l : List S59) (k : ByteArray) (x : Int) : List S59 × Option (ByteArray × List S59) :=
  if has (l.map S59.f0) k then (l.set (rank (l.map S59.f0) k) ⟨k, x⟩, none)
  else halveLeafT order (l.take (rank (l.map S59.f0) k) ++ ⟨k, x⟩ :: l.drop (rank (l.map S59.f0) k))

theorem set_self {α : Type} {l : List α} {i : Nat} {a : α} (h : l[i]? = some a) : l.set i a = l := by
  apply List.ext_getElem?
  intro j
  rw [List.getElem?_set]
  split
  · subst ‹i = j›
    rw [h, if_pos (List.getElem?_eq_some_iff.1 h).1]
  · rfl

theorem halveLeaf_calls {l : List S59} {w : World} {ok : Nat → Prop} {bt b order : Nat} (h0 : w.cell? ⟨bt, 0, none⟩ = some (.int .i64 order)) (hM : (NK 0).M w 0 ok l [.iface 82 (.pointer (some ⟨b, 0, none⟩))])
    (ho : 2 ≤ order) (hl3 : l.length ≤ 1000) (hok : ∀ k, w.heap.size ≤ k → ok k) :
    Calls Try.prog 58 #[.pointer (some ⟨bt, 0, none⟩), .pointer (some ⟨b, 0, none⟩)] w (SplitPost 0 (halveLeafT order l) ok w) := by
  by_cases h : l.length < order
  · have e : halveLeafT order l = (l, none) := by rw [halveLeafT, if_pos h]
    rw [e]
    exact halveLeaf_keep h0 hM h
  · exact halveLeaf_split h0 hM h (by omega) hl3 hok

theorem halve_calls {d : Nat} {ks : List ByteArray} {cs : List (T d)} {kv cv : Value} {w : World} {ok : Nat → Prop} {bt order : Nat} (h0 : w.cell? ⟨bt, 0, none⟩ = some (.int .i64 order)) (hk : SRow w 0 ok kv ks) (hc : CRow d w 0 ok cv cs) (hok : ∀ k, w.heap.size ≤ k → ok k)
    (hsz : sizes cs ≤ 1099511627776) (ho : 2 ≤ order) (hl1 : cs.length = ks.length + 1) (hl3 : cs.length ≤ 1000) :
    Calls Try.prog 62 #[.pointer (some ⟨bt, 0, none⟩), kv, cv] w (SplitPost (d + 1) (halveT order ks cs) ok w) := by
  by_cases h : cs.length ≤ order
  · have e : halveT order ks cs = ((ks, cs), none) := by rw [halveT, if_pos h]
    rw [e]
    exact halve_keep h0 hk hc hok hsz h
  · exact halve_split h0 hk hc hok hsz h hl1 (by omega) hl3

/-- A split's answer, once it is written into its box: a node alone. -/
theorem split_none {d : Nat} {t : T d} {ok : Nat → Prop} {w W W' : World} {e : Ending} (h : SplitPost d (t, none) (fun k => ok k ∧ k ≠ w.heap.size) W e W') (hb : Below w.heap.size w W) :
    ∃ ty b, e = .returned (.agg #[.iface ty (.pointer (some ⟨b, 0, none⟩)), .string ⟨#[]⟩, .nilIface]) ∧ Below W.heap.size W W' ∧
      SplitPost d (t, none) ok w (.returned (.agg #[.iface ty (.pointer (some ⟨b, 0, none⟩)), .string ⟨#[]⟩, .nilIface])) (((W'.setCell ⟨w.heap.size, 0, none⟩ (.iface ty (.pointer (some ⟨b, 0, none⟩)))).setCell ⟨w.heap.size, 1, none⟩ (.string ⟨#[]⟩)).setCell ⟨w.heap.size, 2, none⟩ .nilIface) := by
  obtain ⟨h1, lv, rfl, hM⟩ := h
  obtain ⟨ty, b, rfl⟩ := NK_form ((NK d).K_of_M hM)
  exact ⟨ty, b, rfl, h1, gb_old (below_then hb hb.size h1) (gb_split _ _ _), _, rfl, M_on hM (gb_split _ _ _)⟩
/-- Two nodes. -/
theorem split_some {d : Nat} {t r : T d} {mid : ByteArray} {ok : Nat → Prop} {w W W' : World} {e : Ending} (h : SplitPost d (t, some (mid, r)) (fun k => ok k ∧ k ≠ w.heap.size) W e W') (hb : Below w.heap.size w W) :
    ∃ ty b ty2 b2, e = .returned (.agg #[.iface ty (.pointer (some ⟨b, 0, none⟩)), .string mid, .iface ty2 (.pointer (some ⟨b2, 0, none⟩))]) ∧ Below W.heap.size W W' ∧
      SplitPost d (t, some (mid, r)) ok w (.returned (.agg #[.iface ty (.pointer (some ⟨b, 0, none⟩)), .string mid, .iface ty2 (.pointer (some ⟨b2, 0, none⟩))])) (((W'.setCell ⟨w.heap.size, 0, none⟩ (.iface ty (.pointer (some ⟨b, 0, none⟩)))).setCell ⟨w.heap.size, 1, none⟩ (.string mid)).setCell ⟨w.heap.size, 2, none⟩ (.iface ty2 (.pointer (some ⟨b2, 0, none⟩)))) := by
  obtain ⟨h1, lv, rv, rfl, hM, hM2⟩ := h
  obtain ⟨ty, b, rfl⟩ := NK_form ((NK d).K_of_M hM)
  obtain ⟨ty2, b2, rfl⟩ := NK_form ((NK d).K_of_M hM2)
  exact ⟨ty, b, ty2, b2, rfl, h1, gb_old (below_then hb hb.size h1) (gb_split _ _ _), _, _, rfl, M_on hM (gb_split _ _ _), M_on hM2 (gb_split _ _ _)⟩

set_option maxRecDepth 100000 in
set_option maxHeartbeats 8000000 in
theorem put_leaf {l : List S59} {w : World} {ok : Nat → Prop} {bt order : Nat} {v : Value} (k : ByteArray) (x : Int) (h0 : w.cell? ⟨bt, 0, none⟩ = some (.int .i64 order)) (ho3 : 3 ≤ order) (ho4 : order ≤ 900) (hM : (NK 0).M w 0 ok l [v]) (hS : Shape 0 l) (hok : ∀ k, w.heap.size ≤ k → ok k) :
    Calls Try.prog 48 #[.pointer (some ⟨bt, 0, none⟩), v, .string k, .int .i64 x] w (SplitPost 0 (putLeaf order l k x) ok w) := by
  have hM' := M_off hM
  obtain ⟨b, kv, vv, rfl, hb, hh, hk, hv⟩ := leaf_M.1 hM'
  obtain ⟨hko, hkb⟩ := SRow_own hk
  obtain ⟨hvo, hvb⟩ := IRow_own hv
  obtain ⟨A, c, rfl, hkc, hkc2, _, hkA⟩ := own_cells hko
  obtain ⟨A', c', rfl, hvc, hvc2, _, hvA⟩ := own_cells hvo
  obtain ⟨_, _, e1, _, hkC⟩ := FRow_reads hk
  cases e1
  obtain ⟨hs1, hs2⟩ : SortedK (l.map S59.f0) ∧ l.length ≤ 900 := hS
  have hse := search_ok k hs1 (by rw [List.length_map]; omega)
  simp only [List.length_map] at hkc hkA hvc hvA hh hkC hko hvo
  have hrl := rankT_le0 l k
  have hhas : has (l.map S59.f0) k = true → rank (l.map S59.f0) k < l.length := fun h => by
    have := has_lt h
    rwa [List.length_map] at this
  have hhas2 : has (l.map S59.f0) k = true → (l.map S59.f0)[rank (l.map S59.f0) k]? = some k := fun h => by
    unfold has at h
    exact of_decide_eq_true h
  have hset : has (l.map S59.f0) k = true → (l.set (rank (l.map S59.f0) k) ⟨k, x⟩).map S59.f0 = l.map S59.f0 := fun h => by
    rw [List.map_set]
    exact set_self (hhas2 h)
  have x0 : w.cell? ⟨b, 0, none⟩ = some (.slice A l.length c) := (blk_cell hh 0).trans rfl
  have x1 : w.cell? ⟨b, 1, none⟩ = some (.slice A' l.length c') := (blk_cell hh 1).trans rfl
  have hlb : b < w.heap.size := blk_lt hh
  have hB1 : Below w.heap.size w (w.alloc (.cells #[.nilIface, .string ⟨#[]⟩, .nilIface] 107)) := (Below.refl _ w).alloc (Nat.le_refl _) _
  have hR : ResBox w.heap.size (w.alloc (.cells #[.nilIface, .string ⟨#[]⟩, .nilIface] 107)) := heap_alloc_new w _
  have HM := Aside0.mk hM'
  have hk2 := hk
  rw [List.length_map] at hk2
  have HK := Aside0.mk hk2
  clear hk2
  have HB1 := Aside0.mk hB1
  have HR := Aside0.mk hR
  have HSE := Aside0.mk hse
  have HKC := Aside0.mk hkC
  have HHS := Aside0.mk hhas
  have HST := Aside0.mk hset
  have HKA := Aside0.mk hkA
  have HVA := Aside0.mk hvA
  have HS := Aside0.mk hs1
  have HOK : Aside0 (∀ k, w.heap.size < k → ok k ∧ k ≠ w.heap.size) := ⟨fun k h => ⟨hok k (Nat.le_of_lt h), by omega⟩⟩
  have hrs : w.heap.size < (w.alloc (.cells #[.nilIface, .string ⟨#[]⟩, .nilIface] 107)).heap.size := by simp
  have k1 := ta_leaf
  have hB0 := Aside0.mk h0
  have hokb := hb
  have hlm : l.length ≤ 9223372036854775807 := by omega
  clear hM hM' hk hv hh hB1 hR hse hkC hko hvo hhas hhas2 hset hkA hvA hs1 hok h0 hb hkb hvb
  unfold putLeaf
  generalize rank (l.map S59.f0) k = r at *
  generalize has (l.map S59.f0) k = th at *
  cases th with
  | true =>
    rw [if_pos rfl]
    have hr := HHS.out rfl
    have hst := HST.out rfl
    have HST2 := Aside0.mk hst
    clear hst HHS HST
    have HC1 : Aside0 (∀ W, Below w.heap.size w W → Calls Try.prog 57 #[.slice A' l.length c', .int .i64 r, .int .i64 x] W fun e w' => ∃ v', e = .returned v' ∧ w'.ownsRow W.heap.size 2 1 v' l.length (((l.set r ⟨k, x⟩).map S59.f1).map (.int .i64)) ∧ Below W.heap.size W w') :=
      ⟨fun W hW => by
        rw [List.map_set, List.map_set]
        refine changed_int A' l.length c' r _ x W (fun h => ?_) (by simp) (by omega) (fun u hu => by obtain ⟨y, _, rfl⟩ := List.mem_map.1 hu; rfl) hr
        obtain ⟨ad, e, hc⟩ := HVA.out h
        exact ⟨ad, e, cells_later hc hW⟩⟩
    obtain ⟨n, hse⟩ := HSE.out
    have HQ : Aside0 (∀ W, Below w.heap.size w W → Calls Try.prog 35 #[.slice A l.length c, .string k] W fun e w' => e = .returned (.tuple #[.int .i64 r, .bool true]) ∧ Drawn0 W w') :=
      ⟨fun W hW => by
        have := PTreeRanks.slices_BinarySearch_string_string.calls n A c _ k _ _ W (by rw [List.length_map]; exact Kd.C_below HKC.out hW) (by rw [List.length_map]; exact hkc) hse
        rwa [List.length_map] at this⟩
    clear hse HSE
    go_enter Try.func48, Try.ntmps48
    go_wp2_with fail
    refine (HQ.out _ HB1.out).mono ?_
    rintro e w' ⟨rfl, ⟨nq, rfl⟩⟩
    go_wp2
    have HB2 : Aside0 (Below w.heap.size w ((w.alloc (.cells #[.nilIface, .string ⟨#[]⟩, .nilIface] 107)).drewN nq)) := ⟨pw_below_drewN HB1.out nq⟩
    have HR2 : Aside0 (ResBox w.heap.size ((w.alloc (.cells #[.nilIface, .string ⟨#[]⟩, .nilIface] 107)).drewN nq)) := ⟨HR.out⟩
    have hrs2 : w.heap.size < ((w.alloc (.cells #[.nilIface, .string ⟨#[]⟩, .nilIface] 107)).drewN nq).heap.size := hrs
    generalize (w.alloc (.cells #[.nilIface, .string ⟨#[]⟩, .nilIface] 107)).drewN nq = W0 at *
    have HSK : Aside0 (∀ W, W0.grownBy W (some w.heap.size) → W.cell? ⟨b, 0, none⟩ = some (.slice A l.length c) ∧ W.cell? ⟨b, 1, none⟩ = some (.slice A' l.length c') ∧ W0.grownBy W (some w.heap.size)) :=
      ⟨fun W hW => ⟨pw_cell_below (gb_old HB2.out hW) x0, pw_cell_below (gb_old HB2.out hW) x1, hW⟩⟩
    clear x0 x1 HB1 HR hrs HQ HKC
    go_region_held3 (fun w' => w'.cell? ⟨b, 0, none⟩ = some (.slice A l.length c) ∧ w'.cell? ⟨b, 1, none⟩ = some (.slice A' l.length c') ∧ W0.grownBy w' (some w.heap.size)) (exact HSK.out _ (by repeat (first | assumption | exact grownBy_refl _ _ | refine grownBy_drew ?_ | refine gb_alloc ?_ _ | refine gb_set ?_ _ _))) (first | (go_at_call 57; refine (HC1.out _ (gb_old HB2.out (And.right (And.right (by assumption))))).mono ?_; rintro e w1 ⟨v1, rfl, ho1, hb1⟩; obtain ⟨A1, c1, rfl, _, hc1m, _, _⟩ := own_cells ho1; have hBn := gb_below hb1 (And.right (And.right (by assumption))); have HOv := Aside0.mk ho1; obtain ⟨⟨q0, q1, q2⟩, p0, p1, p2⟩ := ResBox.cells ((hb1.block _ hrs2).trans HR2.out); have hrs3 : w.heap.size < w1.heap.size := Nat.lt_of_lt_of_le hrs2 hb1.size; clear ho1 hb1))
    go_wp2
    refine bodyPost_ret (v := .agg #[.iface 82 (.pointer (some ⟨w1.heap.size, 0, none⟩)), .string ⟨#[]⟩, .nilIface]) (by simp [results, Try.results48, go_sem, q0, q1, q2, hrs3]) rfl ?_
    have hG3 : w1.grownBy ((((w1.setCell ⟨w.heap.size, 0, none⟩ (.iface 82 (.pointer (some ⟨w1.heap.size, 0, none⟩)))).setCell ⟨w.heap.size, 1, none⟩ (.string ⟨#[]⟩)).setCell ⟨w.heap.size, 2, none⟩ .nilIface).alloc (.cells #[.slice A l.length c, .slice A1 l.length c1] 85)) (some w.heap.size) := gb_alloc (gb_split _ _ _) _
    have hH3 := heap_alloc_new (((w1.setCell ⟨w.heap.size, 0, none⟩ (.iface 82 (.pointer (some ⟨w1.heap.size, 0, none⟩)))).setCell ⟨w.heap.size, 1, none⟩ (.string ⟨#[]⟩)).setCell ⟨w.heap.size, 2, none⟩ .nilIface) (.cells #[.slice A l.length c, .slice A1 l.length c1] 85)
    simp only [World.size_setCell] at hH3
    generalize ((((w1.setCell ⟨w.heap.size, 0, none⟩ (.iface 82 (.pointer (some ⟨w1.heap.size, 0, none⟩)))).setCell ⟨w.heap.size, 1, none⟩ (.string ⟨#[]⟩)).setCell ⟨w.heap.size, 2, none⟩ .nilIface).alloc (.cells #[.slice A l.length c, .slice A1 l.length c1] 85)) = Wf at *
    have hBf := gb_old HB2.out (grownBy_trans hBn hG3)
    refine ⟨hBf, _, rfl, leaf_M.2 ⟨w1.heap.size, _, _, rfl, (HOK.out _ hrs3).1, hH3, ?_, ?_⟩⟩
    · rw [HST2.out]
      exact FRow_mono (fun _ h => h.1) (FRow_below HK.out hBf)
    · exact IRow_mk (own_kept HOv.out hG3 hrs2) (fun k h => (HOK.out k (Nat.lt_of_lt_of_le hrs2 h)).1)
  | false =>
    rw [if_neg (by simp)]
    clear HHS HST
    have HC1 : Aside0 (∀ W, Below w.heap.size w W → Calls Try.prog 59 #[.slice A l.length c, .int .i64 r, .string k] W fun e w' => ∃ v', e = .returned v' ∧ w'.ownsRow W.heap.size 9 1 v' (l.length + 1) (((l.take r ++ ⟨k, x⟩ :: l.drop r).map S59.f0).map .string) ∧ Below W.heap.size W w') :=
      ⟨fun W hW => by
        rw [List.map_append, List.map_append, List.map_cons, List.map_cons, List.map_take, List.map_take, List.map_drop, List.map_drop]
        refine with_str A l.length c r _ k W (fun h => ?_) (by simp) (by omega) (fun u hu => by obtain ⟨y, _, rfl⟩ := List.mem_map.1 hu; rfl) hrl
        obtain ⟨ad, e, hc⟩ := HKA.out h
        exact ⟨ad, e, cells_later hc hW⟩⟩
    have HC2 : Aside0 (∀ W, Below w.heap.size w W → Calls Try.prog 60 #[.slice A' l.length c', .int .i64 r, .int .i64 x] W fun e w' => ∃ v', e = .returned v' ∧ w'.ownsRow W.heap.size 2 1 v' (l.length + 1) (((l.take r ++ ⟨k, x⟩ :: l.drop r).map S59.f1).map (.int .i64)) ∧ Below W.heap.size W w') :=
      ⟨fun W hW => by
        rw [List.map_append, List.map_append, List.map_cons, List.map_cons, List.map_take, List.map_take, List.map_drop, List.map_drop]
        refine with_int A' l.length c' r _ x W (fun h => ?_) (by simp) (by omega) (fun u hu => by obtain ⟨y, _, rfl⟩ := List.mem_map.1 hu; rfl) hrl
        obtain ⟨ad, e, hc⟩ := HVA.out h
        exact ⟨ad, e, cells_later hc hW⟩⟩
    obtain ⟨n, hse⟩ := HSE.out
    have HQ : Aside0 (∀ W, Below w.heap.size w W → Calls Try.prog 35 #[.slice A l.length c, .string k] W fun e w' => e = .returned (.tuple #[.int .i64 r, .bool false]) ∧ Drawn0 W w') :=
      ⟨fun W hW => by
        have := PTreeRanks.slices_BinarySearch_string_string.calls n A c _ k _ _ W (by rw [List.length_map]; exact Kd.C_below HKC.out hW) (by rw [List.length_map]; exact hkc) hse
        rwa [List.length_map] at this⟩
    have HH : Aside0 (∀ (W : World) (nb b1 b2 n1 n2 : Nat) (v1 v2 : Value), Below w.heap.size w W → w.heap.size < W.heap.size → w.heap.size < b1 → w.heap.size < b2 → w.heap.size < nb → W.heap[nb]? = some (.cells #[v1, v2] 85 (0, 0)) →
        W.ownsRow b1 9 1 v1 n1 (((l.take r ++ ⟨k, x⟩ :: l.drop r).map S59.f0).map .string) → W.ownsRow b2 2 1 v2 n2 (((l.take r ++ ⟨k, x⟩ :: l.drop r).map S59.f1).map (.int .i64)) →
        Calls Try.prog 58 #[.pointer (some ⟨bt, 0, none⟩), .pointer (some ⟨nb, 0, none⟩)] W (SplitPost 0 (halveLeafT order (l.take r ++ ⟨k, x⟩ :: l.drop r)) (fun k => ok k ∧ k ≠ w.heap.size) W)) :=
      ⟨fun W nb b1 b2 n1 n2 v1 v2 hW hs h1 h2 h3 hh hr1 hr2 => halveLeaf_calls (pw_cell_below hW hB0.out)
        (leaf_M.2 ⟨nb, v1, v2, rfl, HOK.out nb h3, hh, SRow_mk hr1 (fun k h => HOK.out k (by omega)), IRow_mk hr2 (fun k h => HOK.out k (by omega))⟩) (by omega)
        (by rw [List.length_append, List.length_take, List.length_cons, List.length_drop]; omega) (fun k h => HOK.out k (by omega))⟩
    clear hse HSE
    generalize halveLeafT order (l.take r ++ ⟨k, x⟩ :: l.drop r) = sp at *
    obtain ⟨s1, _ | ⟨mid, s2⟩⟩ := sp
    · go_enter Try.func48, Try.ntmps48
      go_wp2_with fail
      refine (HQ.out _ HB1.out).mono ?_
      rintro e w' ⟨rfl, ⟨nq, rfl⟩⟩
      go_wp2
      have HB2 : Aside0 (Below w.heap.size w ((w.alloc (.cells #[.nilIface, .string ⟨#[]⟩, .nilIface] 107)).drewN nq)) := ⟨pw_below_drewN HB1.out nq⟩
      have HR2 : Aside0 (ResBox w.heap.size ((w.alloc (.cells #[.nilIface, .string ⟨#[]⟩, .nilIface] 107)).drewN nq)) := ⟨HR.out⟩
      have hrs2 : w.heap.size < ((w.alloc (.cells #[.nilIface, .string ⟨#[]⟩, .nilIface] 107)).drewN nq).heap.size := hrs
      generalize (w.alloc (.cells #[.nilIface, .string ⟨#[]⟩, .nilIface] 107)).drewN nq = W0 at *
      have HSK : Aside0 (∀ W, W0.grownBy W (some w.heap.size) → W.cell? ⟨b, 0, none⟩ = some (.slice A l.length c) ∧ W.cell? ⟨b, 1, none⟩ = some (.slice A' l.length c') ∧ W0.grownBy W (some w.heap.size)) :=
        ⟨fun W hW => ⟨pw_cell_below (gb_old HB2.out hW) x0, pw_cell_below (gb_old HB2.out hW) x1, hW⟩⟩
      clear x0 x1 HB1 HR hrs HQ HKC
      go_region_held3 (fun w' => w'.cell? ⟨b, 0, none⟩ = some (.slice A l.length c) ∧ w'.cell? ⟨b, 1, none⟩ = some (.slice A' l.length c') ∧ W0.grownBy w' (some w.heap.size)) (exact HSK.out _ (by repeat (first | assumption | exact grownBy_refl _ _ | refine grownBy_drew ?_ | refine gb_alloc ?_ _ | refine gb_set ?_ _ _))) (first | (go_at_call 59; refine (HC1.out _ (gb_old HB2.out (And.right (And.right (by assumption))))).mono ?_; rintro e w1 ⟨v1, rfl, ho1, hb1⟩; obtain ⟨A1, c1, rfl, _, hc1m, _, _⟩ := own_cells ho1; have hBn := gb_below hb1 (And.right (And.right (by assumption))); have HOk := Aside0.mk ho1; have HR3 : Aside0 (ResBox w.heap.size w1) := ⟨(hb1.block _ hrs2).trans HR2.out⟩; have hrs3 : w.heap.size < w1.heap.size := Nat.lt_of_lt_of_le hrs2 hb1.size; clear ho1 hb1) | (go_at_call 60; refine (HC2.out _ (gb_old HB2.out (And.right (And.right (by assumption))))).mono ?_; rintro e w2 ⟨v2, rfl, ho1, hb1⟩; obtain ⟨A2, c2, rfl, _, hc2m, _, _⟩ := own_cells ho1; have hBn2 := gb_below hb1 (And.right (And.right (by assumption))); (have HOk1 := Aside0.mk (pw_own_below HOk.out hb1); clear HOk; have HOk := HOk1; clear HOk1); have HOv := Aside0.mk ho1; have HR4 : Aside0 (ResBox w.heap.size w2) := ⟨(hb1.block _ hrs3).trans HR3.out⟩; have hrs4 : w.heap.size < w2.heap.size := Nat.lt_of_lt_of_le hrs3 hb1.size; clear ho1 hb1) | (go_at_call 58; refine (HH.out _ _ _ _ _ _ _ _ (gb_old HB2.out (And.right (And.right (by assumption)))) (by simp; omega) hrs2 hrs3 hrs4 (heap_alloc_new _ _) (HOk.out.alloc _) (HOv.out.alloc _)).mono ?_; rintro e w5 hP; obtain ⟨ty, bb, rfl, hb5, hfin⟩ := split_none hP (gb_old HB2.out (And.right (And.right (by assumption)))); have hBn5 := gb_below hb5 (And.right (And.right (by assumption))); obtain ⟨⟨q0, q1, q2⟩, p0, p1, p2⟩ := ResBox.cells ((hb5.block _ (by simp; omega)).trans ((Below.heap_alloc _ _ _ hrs4).trans HR4.out)); have HFIN := Aside0.mk hfin; clear hfin hP hb5))
      go_wp2
      refine bodyPost_ret (v := .agg #[.iface ty (.pointer (some ⟨bb, 0, none⟩)), .string ⟨#[]⟩, .nilIface]) (by simp [results, Try.results48, go_sem, q0, q1, q2]) rfl ?_
      exact HFIN.out
    · go_enter Try.func48, Try.ntmps48
      go_wp2_with fail
      refine (HQ.out _ HB1.out).mono ?_
      rintro e w' ⟨rfl, ⟨nq, rfl⟩⟩
      go_wp2
      have HB2 : Aside0 (Below w.heap.size w ((w.alloc (.cells #[.nilIface, .string ⟨#[]⟩, .nilIface] 107)).drewN nq)) := ⟨pw_below_drewN HB1.out nq⟩
      have HR2 : Aside0 (ResBox w.heap.size ((w.alloc (.cells #[.nilIface, .string ⟨#[]⟩, .nilIface] 107)).drewN nq)) := ⟨HR.out⟩
      have hrs2 : w.heap.size < ((w.alloc (.cells #[.nilIface, .string ⟨#[]⟩, .nilIface] 107)).drewN nq).heap.size := hrs
      generalize (w.alloc (.cells #[.nilIface, .string ⟨#[]⟩, .nilIface] 107)).drewN nq = W0 at *
      have HSK : Aside0 (∀ W, W0.grownBy W (some w.heap.size) → W.cell? ⟨b, 0, none⟩ = some (.slice A l.length c) ∧ W.cell? ⟨b, 1, none⟩ = some (.slice A' l.length c') ∧ W0.grownBy W (some w.heap.size)) :=
        ⟨fun W hW => ⟨pw_cell_below (gb_old HB2.out hW) x0, pw_cell_below (gb_old HB2.out hW) x1, hW⟩⟩
      clear x0 x1 HB1 HR hrs HQ HKC
      go_region_held3 (fun w' => w'.cell? ⟨b, 0, none⟩ = some (.slice A l.length c) ∧ w'.cell? ⟨b, 1, none⟩ = some (.slice A' l.length c') ∧ W0.grownBy w' (some w.heap.size)) (exact HSK.out _ (by repeat (first | assumption | exact grownBy_refl _ _ | refine grownBy_drew ?_ | refine gb_alloc ?_ _ | refine gb_set ?_ _ _))) (first | (go_at_call 59; refine (HC1.out _ (gb_old HB2.out (And.right (And.right (by assumption))))).mono ?_; rintro e w1 ⟨v1, rfl, ho1, hb1⟩; obtain ⟨A1, c1, rfl, _, hc1m, _, _⟩ := own_cells ho1; have hBn := gb_below hb1 (And.right (And.right (by assumption))); have HOk := Aside0.mk ho1; have HR3 : Aside0 (ResBox w.heap.size w1) := ⟨(hb1.block _ hrs2).trans HR2.out⟩; have hrs3 : w.heap.size < w1.heap.size := Nat.lt_of_lt_of_le hrs2 hb1.size; clear ho1 hb1) | (go_at_call 60; refine (HC2.out _ (gb_old HB2.out (And.right (And.right (by assumption))))).mono ?_; rintro e w2 ⟨v2, rfl, ho1, hb1⟩; obtain ⟨A2, c2, rfl, _, hc2m, _, _⟩ := own_cells ho1; have hBn2 := gb_below hb1 (And.right (And.right (by assumption))); (have HOk1 := Aside0.mk (pw_own_below HOk.out hb1); clear HOk; have HOk := HOk1; clear HOk1); have HOv := Aside0.mk ho1; have HR4 : Aside0 (ResBox w.heap.size w2) := ⟨(hb1.block _ hrs3).trans HR3.out⟩; have hrs4 : w.heap.size < w2.heap.size := Nat.lt_of_lt_of_le hrs3 hb1.size; clear ho1 hb1) | (go_at_call 58; refine (HH.out _ _ _ _ _ _ _ _ (gb_old HB2.out (And.right (And.right (by assumption)))) (by simp; omega) hrs2 hrs3 hrs4 (heap_alloc_new _ _) (HOk.out.alloc _) (HOv.out.alloc _)).mono ?_; rintro e w5 hP; obtain ⟨ty, bb, ty2, bb2, rfl, hb5, hfin⟩ := split_some hP (gb_old HB2.out (And.right (And.right (by assumption)))); have hBn5 := gb_below hb5 (And.right (And.right (by assumption))); obtain ⟨⟨q0, q1, q2⟩, p0, p1, p2⟩ := ResBox.cells ((hb5.block _ (by simp; omega)).trans ((Below.heap_alloc _ _ _ hrs4).trans HR4.out)); have HFIN := Aside0.mk hfin; clear hfin hP hb5))
      go_wp2
      refine bodyPost_ret (v := .agg #[.iface ty (.pointer (some ⟨bb, 0, none⟩)), .string mid, .iface ty2 (.pointer (some ⟨bb2, 0, none⟩))]) (by simp [results, Try.results48, go_sem, q0, q1, q2]) rfl ?_
      exact HFIN.out

end Go.Proofs.Ytjabcdfbncglnaa
