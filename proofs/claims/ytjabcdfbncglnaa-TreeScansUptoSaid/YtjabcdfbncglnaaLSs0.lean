/- WHAT IS PROVED: what TreeScans keeps while it scans. -/
import Derived.Test.YtjabcdfbncglnaaLIt
import Derived.Test.YtjabcdfbncglnaaLB16
import Derived.Test.YtjabcdfbncglnaaLB12
import Derived.Test.YtjabcdfbncglnaaLB15
namespace Go.Proofs.Ytjabcdfbncglnaa
open Go.RowKit Go.Shelf Go.Proofs.YtjabcdfbncglnaaW.PrintWords Go.Proofs.YtjabcdfbncglnaaW.PrintLast Go.Proofs.YtjabcdfbncglnaaW.PrintMore
open PTreeRanks (S59 k59 z59)
set_option linter.unusedVariables false
set_option linter.unusedSimpArgs false

/-! ### The lists -/
def ScList (L B : Nat) (want pre cur : List S59) : Prop :=
  pre <+: want ∧ (∀ y ∈ want.drop pre.length, has (keysOf cur) y.f0 = true) ∧ cur.length ≤ L ∧ (∀ y ∈ cur, y.f0.size ≤ B)

theorem scanL_sub (f u : ByteArray) (l : List S59) : ∀ y ∈ scanL f u l, y ∈ l := fun y hy => (List.mem_filter.1 hy).1
theorem scanL_sorted {f u : ByteArray} {l : List S59} (hs : SortedK (keysOf l)) : SortedK (keysOf (scanL f u l)) :=
  List.Pairwise.sublist (List.Sublist.map _ List.filter_sublist) hs

theorem sc_start {L B : Nat} {f u : ByteArray} {l : List S59} (hs : SortedK (keysOf l)) (hl : l.length ≤ L) (hz : ∀ y ∈ l, y.f0.size ≤ B) : ScList L B (scanL f u l) [] l :=
  ⟨List.nil_prefix, fun y hy => (has_mem hs).2 ⟨y, scanL_sub f u l y (List.mem_of_mem_drop hy), rfl⟩, hl, hz⟩

theorem sc_step {L B : Nat} {want pre cur : List S59} {x : S59} (h : ScList L B want pre cur) (hlt : pre.length < want.length) (hx : want[pre.length] = x) (hw : SortedK (keysOf want)) (hc : SortedK (keysOf cur)) (k : ByteArray) (hk : k.size ≤ B) (v : Int) :
    ScList L B want (pre ++ [x]) (delL (insL cur k v) x.f0) := by
  obtain ⟨hp, hh, hl, hz⟩ := h
  have hci := insL_sorted hc k v
  have hcd := delL_sorted hci x.f0
  have hdrop : want.drop pre.length = x :: want.drop (pre.length + 1) := by rw [List.drop_eq_getElem_cons hlt, hx]
  have hlen : (pre ++ [x]).length = pre.length + 1 := by simp
  refine ⟨?_, fun y hy => ?_, ?_, fun y hy => ?_⟩
  · obtain ⟨z, rfl⟩ := hp
    rw [List.drop_left] at hdrop
    rw [hdrop]
    exact ⟨_, by simp [List.append_assoc]; rfl⟩
  · rw [hlen] at hy
    obtain ⟨z, hz1, hz2⟩ := (has_mem hc).1 (hh y (by rw [hdrop]; exact List.mem_cons_of_mem _ hy))
    have hne : y.f0 ≠ x.f0 := by
      have h1 : SortedK (keysOf (want.drop pre.length)) := List.Pairwise.sublist (List.Sublist.map _ (List.drop_sublist _ _)) hw
      rw [hdrop] at h1
      have h2 := (sorted_head h1).1 y hy
      intro e
      rw [e, blt_irrefl] at h2
      cases h2
    by_cases hzk : z.f0 = k
    · exact (has_mem hcd).2 ⟨⟨k, v⟩, (mem_delL hci _ _).2 ⟨(mem_insL hc k v _).2 (.inl rfl), by show k ≠ x.f0; rw [← hzk, hz2]; exact hne⟩, by show k = y.f0; rw [← hzk, hz2]⟩
    · exact (has_mem hcd).2 ⟨z, (mem_delL hci _ _).2 ⟨(mem_insL hc k v _).2 (.inr ⟨hz1, hzk⟩), by rw [hz2]; exact hne⟩, hz2⟩
  · have h1 : has (keysOf (insL cur k v)) x.f0 = true := by
      obtain ⟨z, hz1, hz2⟩ := (has_mem hc).1 (hh x (by rw [hdrop]; exact List.mem_cons_self))
      by_cases hzk : z.f0 = k
      · exact (has_mem hci).2 ⟨⟨k, v⟩, (mem_insL hc k v _).2 (.inl rfl), by show k = x.f0; rw [← hzk, hz2]⟩
      · exact (has_mem hci).2 ⟨z, (mem_insL hc k v _).2 (.inr ⟨hz1, hzk⟩), hz2⟩
    have h2 := has_lt h1
    rw [keysOf_length] at h2
    rw [delL_length, if_pos h1]
    have h3 := insL_length cur k v
    split at h3 <;> omega
  · obtain ⟨h1, _⟩ := (mem_delL hci _ _).1 hy
    rcases (mem_insL hc k v _).1 h1 with rfl | ⟨h1, _⟩
    · exact hk
    · exact hz y h1

/-! ### Worlds -/
theorem TG.kept {order bt : Nat} {l : List S59} {ok : Nat → Prop} {W W' : World} (h : TG order l ok bt W) (hm : ∀ k, ok k ∨ k = bt → (∃ c e, W.heap[k]? = some (.cells c e (0, 0))) → W'.heap[k]? = W.heap[k]?) : TG order l ok bt W' := by
  obtain ⟨h1, h2, t, e, h3, h4, v, h5, h6⟩ := h
  refine ⟨h1, h2, t, e, h3, h4, v, (hm bt (.inr rfl) ⟨_, _, h5⟩).trans h5, ?_⟩
  refine (NK t.1).M_mono (ok := fun k => ok k ∧ 0 ≤ k ∧ k < W.heap.size ∧ ∃ q, q ∈ (NK t.1).E ∧ ∃ cells, W.heap[k]? = some (.cells cells q (0, 0))) (fun k hk => hk.1) ?_
  exact (NK t.1).M_move (fun k hk => hm k (.inl hk.1) (by obtain ⟨q, _, c, hc⟩ := hk.2.2.2; exact ⟨c, q, hc⟩)) ((NK t.1).M_bound h6)
theorem R_kept {α : Type} {d : Kd α} {e base : Nat} {ok : Nat → Prop} {v : Value} {xs : List α} {W W' : World} (h : d.R e W base ok v xs) (hm : ∀ k, ok k → (∃ c e, W.heap[k]? = some (.cells c e (0, 0))) → W'.heap[k]? = W.heap[k]?) : d.R e W' base ok v xs :=
  Kd.R_mono (ok := fun k => ok k ∧ base ≤ k ∧ k < W.heap.size ∧ ∃ q, q ∈ e :: d.E ∧ ∃ cells, W.heap[k]? = some (.cells cells q (0, 0)))
    (Kd.R_move (Kd.R_bound h) (fun k hk => hm k hk.1 (by obtain ⟨q, _, c, hc⟩ := hk.2.2.2; exact ⟨c, q, hc⟩))) (fun k hk => hk.1)
theorem IterAt.kept2 {order br bf bu : Nat} {l : List S59} {f u : ByteArray} {ok : Nat → Prop} {W W' : World} (h : IterAt order l f u ok br bf bu W) (hm : ∀ k, ok k → (∃ c e, W.heap[k]? = some (.cells c e (0, 0))) → W'.heap[k]? = W.heap[k]?) : IterAt order l f u ok br bf bu W' := by
  obtain ⟨t, e, h3, h4, hW, o1, o2, o3, ⟨v, hv, hM⟩, hf, hu⟩ := h
  refine ⟨t, e, h3, h4, hW, o1, o2, o3, ⟨v, (hm _ o1 ⟨_, _, hv⟩).trans hv, ?_⟩, (hm _ o2 ⟨_, _, hf⟩).trans hf, (hm _ o3 ⟨_, _, hu⟩).trans hu⟩
  refine (NK t.1).M_mono (ok := fun k => ok k ∧ 0 ≤ k ∧ k < W.heap.size ∧ ∃ q, q ∈ (NK t.1).E ∧ ∃ cells, W.heap[k]? = some (.cells cells q (0, 0))) (fun k hk => hk.1) ?_
  exact (NK t.1).M_move (fun k hk => hm k hk.1 (by obtain ⟨q, _, c, hc⟩ := hk.2.2.2; exact ⟨c, q, hc⟩)) ((NK t.1).M_bound hM)

/-- The places of one operation of TreeScans. -/
structure ScP where
  order : Nat
  w0 : World
  q6 : Nat
  bt : Nat
  s : Nat
  a0 : Nat
  q12 : Nat
  okA : Nat → Prop
  op : S46
  Aw : Option Addr
  cw : Nat
  l0 : List S59
  Ds : List Nat
def ScP.want (p : ScP) : List S59 := scanL p.op.k p.op.k2 p.l0
def ScP.okI (p : ScP) : Nat → Prop := OkI (fun k => p.okA k ∧ k < p.a0) (p.a0 + 1)
def ScP.okw (p : ScP) : Nat → Prop := fun k => p.a0 + 5 ≤ k ∧ k < p.q12
def ScP.okN (p : ScP) : Nat → Prop := fun k => (p.okA k ∧ k < p.a0) ∨ p.q12 + 2 ≤ k
structure ScP.OK (p : ScP) : Prop where
  h0 : p.w0.heap.size ≤ p.q6
  h1 : p.q6 < p.bt
  h2 : p.bt < p.s
  h3 : p.s < p.a0
  h4 : p.a0 + 5 ≤ p.q12
  n6 : ¬ p.okA p.q6
  nb : ¬ p.okA p.bt
  ns : ¬ p.okA p.s

def S46.cells (x : S46) : Array Value := #[.int .i64 x.kd, .bool x.other, .string x.k, .string x.k2, .int .i64 x.v, .int .i64 x.i, .bool x.beyond]

/-- While an operation's scan goes on. -/
structure Sc (p : ScP) (k : Nat) (cur : List S59) (W : World) : Prop where
  below : Below p.w0.heap.size p.w0 W
  size : p.q12 + 2 ≤ W.heap.size
  ans : W.heap[p.q6]? = some (.cells #[.bool false] 4 (0, 0))
  op : W.heap[p.a0]? = some (.cells p.op.cells 46 (0, 0))
  it : W.heap[p.a0 + 4]? = some (.cells #[.func (.func 46) #[] #[.pointer (some ⟨p.a0 + 3, 0, none⟩), .pointer (some ⟨p.a0 + 1, 0, none⟩), .pointer (some ⟨p.a0 + 2, 0, none⟩)]] 55 (0, 0))
  wn : W.heap[p.q12]? = some (.cells #[.slice p.Aw p.want.length p.cw] 25 (0, 0))
  num : W.heap[p.q12 + 1]? = some (.cells #[.int .i64 (k : Nat)] 3 (0, 0))
  row : k59.R 59 W 0 p.okw (.slice p.Aw p.want.length p.cw) p.want
  iter : IterAt p.order p.l0 p.op.k p.op.k2 p.okI (p.a0 + 3) (p.a0 + 1) (p.a0 + 2) W
  one : ∃ lv, W.heap[p.s]? = some (.cells #[.pointer (some ⟨p.bt, 0, none⟩), lv] 27 (0, 0)) ∧ k59.R 59 W 0 p.okN lv cur
  tree : TG p.order cur p.okN p.bt W
  marks : ∀ D ∈ p.Ds, D < p.a0 ∧ W.heap[D]? = some (.deferred (some []))

theorem Sc.kept {p : ScP} {k : Nat} {cur : List S59} {W W' : World} (h : Sc p k cur W) (hb : Below p.w0.heap.size p.w0 W') (hsz : W.heap.size ≤ W'.heap.size) (hm : ∀ i : Nat, (∃ (c : Array Value) (e : TypeId), W.heap[i]? = some (Obj.cells c e (0, 0))) → W'.heap[i]? = W.heap[i]?) (hd : ∀ D ∈ p.Ds, W'.heap[D]? = W.heap[D]?) : Sc p k cur W' := by
  obtain ⟨lv, ho, hR⟩ := h.one
  exact ⟨hb, Nat.le_trans h.size hsz, (hm _ ⟨_, _, h.ans⟩).trans h.ans, (hm _ ⟨_, _, h.op⟩).trans h.op, (hm _ ⟨_, _, h.it⟩).trans h.it, (hm _ ⟨_, _, h.wn⟩).trans h.wn, (hm _ ⟨_, _, h.num⟩).trans h.num,
    R_kept h.row (fun i _ hi => hm i hi), h.iter.kept2 (fun i _ hi => hm i hi), ⟨lv, (hm _ ⟨_, _, ho⟩).trans ho, R_kept hR (fun i _ hi => hm i hi)⟩, h.tree.kept (fun i _ hi => hm i hi), fun D hD => ⟨(h.marks D hD).1, (hd D hD).trans (h.marks D hD).2⟩⟩
theorem Sc.next_world {p : ScP} (hp : p.OK) {k : Nat} {cur : List S59} {W W' : World} (h : Sc p k cur W) (hb : Below W.heap.size W W') : Sc p k cur W' :=
  h.kept (h.below.trans (hb.mono (by have := h.size; have := hp.h0; have := hp.h1; have := hp.h2; have := hp.h3; have := hp.h4; omega))) hb.size (fun i ⟨c, e, hi⟩ => hb.block i (blk_lt hi)) (fun D hD => hb.block D (Array.getElem?_eq_some_iff.1 (h.marks D hD).2).1)
theorem Sc.far {p : ScP} (hp : p.OK) {k : Nat} {cur : List S59} {W W' : World} (h : Sc p k cur W) {row : Option Nat} (hg : W.grownBy W' row) (hr : ∀ r, row = some r → p.q12 + 2 ≤ r ∧ ∃ o : Obj, W.heap[r]? = some o ∧ o.isCells = false) : Sc p k cur W' := by
  refine h.kept (h.below.grown hg (by have := h.size; have := hp.h0; have := hp.h1; have := hp.h2; have := hp.h3; have := hp.h4; omega) (fun r e => by have := (hr r e).1; have := hp.h0; have := hp.h1; have := hp.h2; have := hp.h3; have := hp.h4; omega)) hg.size (fun i ⟨c, e, hi⟩ => hg.block i (blk_lt hi) (fun e' => ?_)) (fun D hD => hg.block D (Array.getElem?_eq_some_iff.1 (h.marks D hD).2).1 (fun e' => by have := (h.marks D hD).1; have := (hr D e'.symm).1; have := hp.h4; omega))
  obtain ⟨_, o, ho, hc⟩ := hr i e'.symm
  rw [hi] at ho
  cases ho
  cases hc

theorem Two.keepsFrom {a b : Nat} {W W' : World} (h : Two a b W W') (ha : ∃ c e, W.heap[a]? = some (.cells c e (0, 0))) (hb : ∃ c e, W.heap[b]? = some (.cells c e (0, 0))) (B : Nat) : KeepsFrom B W W' := by
  refine ⟨h.size, fun k o _ hk ho => (h.block k (Array.getElem?_eq_some_iff.1 hk).1 (fun e => ?_) (fun e => ?_)).trans hk⟩
  · obtain ⟨c, e', ha⟩ := ha
    rw [e, ha] at hk
    cases hk
    cases ho
  · obtain ⟨c, e', hb⟩ := hb
    rw [e, hb] at hk
    cases hk
    cases ho
theorem keepsFrom_below {B : Nat} {W W' : World} (h : Below W.heap.size W W') : KeepsFrom B W W' := ⟨h.size, fun k o _ hk _ => (h.block k (Array.getElem?_eq_some_iff.1 hk).1).trans hk⟩

theorem ScP.OK.okI_lt {p : ScP} (hp : p.OK) : ∀ k, p.okI k → k < p.q12 := fun k hk => by
  have := hp.h4
  rcases hk with ⟨⟨_, hk⟩, _⟩ | hk | hk | hk <;> omega
theorem ScP.OK.okI_lt4 {p : ScP} (hp : p.OK) : ∀ k, p.okI k → k < p.a0 + 4 := fun k hk => by
  rcases hk with ⟨⟨_, hk⟩, _⟩ | hk | hk | hk <;> omega
theorem ScP.OK.okI_ne {p : ScP} (hp : p.OK) : ∀ k, p.okI k → k ≠ p.s ∧ k ≠ p.bt ∧ k ≠ p.q6 ∧ k ≠ p.a0 ∧ k ≠ p.a0 + 4 := fun k hk => by
  have := hp.h1; have := hp.h2; have := hp.h3
  rcases hk with ⟨⟨hk, hlt⟩, _⟩ | hk | hk | hk
  · exact ⟨fun e => hp.ns (e ▸ hk), fun e => hp.nb (e ▸ hk), fun e => hp.n6 (e ▸ hk), by omega, by omega⟩
  all_goals exact ⟨by omega, by omega, by omega, by omega, by omega⟩
theorem ScP.OK.okN_ne {p : ScP} (hp : p.OK) : ∀ k, p.okN k → k ≠ p.s ∧ k ≠ p.bt ∧ k ≠ p.q12 + 1 := fun k hk => by
  have := hp.h1; have := hp.h2; have := hp.h3; have := hp.h4
  rcases hk with ⟨hk, hlt⟩ | hk
  · exact ⟨fun e => hp.ns (e ▸ hk), fun e => hp.nb (e ▸ hk), by omega⟩
  · exact ⟨by omega, by omega, by omega⟩

/-- The number so far, written. -/
theorem Sc.count {p : ScP} (hp : p.OK) {k : Nat} {cur : List S59} {W : World} (h : Sc p k cur W) : Sc p (k + 1) cur (W.setCell ⟨p.q12 + 1, 0, none⟩ (.int .i64 ((k : Nat) + 1))) ∧ KeptIn p.okI W (W.setCell ⟨p.q12 + 1, 0, none⟩ (.int .i64 ((k : Nat) + 1))) := by
  have e0 := hp.h0; have e1 := hp.h1; have e2 := hp.h2; have e3 := hp.h3; have e4 := hp.h4
  have hg : W.grownBy (W.setCell ⟨p.q12 + 1, 0, none⟩ (.int .i64 ((k : Nat) + 1))) (some (p.q12 + 1)) := gb_set (grownBy_refl _ _) _ _
  have hm : ∀ i, i ≠ p.q12 + 1 → i < W.heap.size → (W.setCell ⟨p.q12 + 1, 0, none⟩ (.int .i64 ((k : Nat) + 1))).heap[i]? = W.heap[i]? := fun i hi hlt => hg.block i hlt (fun e => hi (by injection e))
  obtain ⟨lv, ho, hR⟩ := h.one
  have hk : KeptIn p.okI W (W.setCell ⟨p.q12 + 1, 0, none⟩ (.int .i64 ((k : Nat) + 1))) := fun i hi => Below.heap_setCell W ⟨p.q12 + 1, 0, none⟩ _ i (show i ≠ p.q12 + 1 by have := hp.okI_lt i hi; omega)
  refine ⟨⟨h.below.grown hg (Nat.le_trans (by omega) h.size) (fun r e => by injection e with e; omega), Nat.le_trans h.size hg.size, (hm _ (by omega) (blk_lt h.ans)).trans h.ans, (hm _ (by omega) (blk_lt h.op)).trans h.op, (hm _ (by omega) (blk_lt h.it)).trans h.it, (hm _ (by omega) (blk_lt h.wn)).trans h.wn, (blk_set h.num 0 _).trans rfl,
    Kd.R_step h.row (fun i hi hlt => hm i (by have := hi.2; omega) hlt), h.iter.kept hk, ⟨lv, (hm _ (by omega) (blk_lt ho)).trans ho, Kd.R_step hR (fun i hi hlt => hm i (hp.okN_ne i hi).2.2 hlt)⟩, h.tree.step (fun i hi hlt => hm i ?_ hlt), fun D hD => ⟨(h.marks D hD).1, (hm D (by have := (h.marks D hD).1; omega) (Array.getElem?_eq_some_iff.1 (h.marks D hD).2).1).trans (h.marks D hD).2⟩⟩, hk⟩
  rcases hi with hi | rfl
  · exact (hp.okN_ne i hi).2.2
  · omega

/-- A change of the tree while a scan goes on. -/
theorem Sc.change {p : ScP} (hp : p.OK) {k : Nat} {cur : List S59} {W : World} (h : Sc p k cur W) (kd x i : Int) (kk k2 : ByteArray) (other beyond : Bool) (hk : kk.size ≤ 281474976710656) (hl : cur.length < 1073741824) :
    Calls Try.prog 21 #[.pointer (some ⟨p.s, 0, none⟩), .agg #[.int .i64 kd, .bool other, .string kk, .string k2, .int .i64 x, .int .i64 i, .bool beyond]] W fun e w' => e = .returned (.bool true) ∧ Sc p k (chL cur kd kk x) w' ∧ KeptIn p.okI W w' ∧ KeepsFrom (p.q12 + 2) W w' := by
  have e0 := hp.h0; have e1 := hp.h1; have e2 := hp.h2; have e3 := hp.h3; have e4 := hp.h4
  obtain ⟨lv, ho, hR⟩ := h.one
  have hs := blk_lt ho
  have hsz := h.size
  refine (changes_calls (o := 0) (ok := p.okN) (okr := p.okN) h.tree (fun k hk => .inr (Nat.le_trans hsz hk)) (fun hk => (hp.okN_ne _ hk).2.1 rfl) (fun hk => (hp.okN_ne _ hk).1 rfl) (by omega) ho rfl rfl hR (fun k hk => .inr (Nat.le_trans hsz hk)) (fun hk => (hp.okN_ne _ hk).1 rfl) (fun hk => (hp.okN_ne _ hk).2.1 rfl) kd x i kk k2 other beyond hk hl).mono ?_
  rintro e w' ⟨rfl, lv', g1, g2, g3, g4⟩
  have hm : ∀ i, i ≠ p.s → i ≠ p.bt → i < W.heap.size → w'.heap[i]? = W.heap[i]? := fun i h1 h2 hlt => g4.block i hlt h1 h2
  have hki : KeptIn p.okI W w' := fun i hi => hm i (hp.okI_ne i hi).1 (hp.okI_ne i hi).2.1 (by have := hp.okI_lt i hi; omega)
  have hbc : ∃ c e, W.heap[p.bt]? = some (.cells c e (0, 0)) := by
    obtain ⟨_, _, t, _, _, _, v, h5, _⟩ := h.tree
    exact ⟨_, _, h5⟩
  have hmd : ∀ D ∈ p.Ds, D ≠ p.s ∧ D ≠ p.bt := by
    intro D hD
    have h2 := (h.marks D hD).2
    obtain ⟨c, e', hc⟩ := hbc
    constructor
    · intro e
      rw [e, ho] at h2
      cases h2
    · intro e
      rw [e, hc] at h2
      cases h2
  refine ⟨rfl, ⟨h.below.trans (g4.belowN (by omega) (by omega) (by omega)), Nat.le_trans hsz g4.size, (hm _ (by omega) (by omega) (blk_lt h.ans)).trans h.ans, (hm _ (by omega) (by omega) (blk_lt h.op)).trans h.op, (hm _ (by omega) (by omega) (blk_lt h.it)).trans h.it, (hm _ (by omega) (by omega) (blk_lt h.wn)).trans h.wn, (hm _ (by omega) (by omega) (blk_lt h.num)).trans h.num,
    Kd.R_step h.row (fun i hi hlt => hm i (by have := hi.1; omega) (by have := hi.1; omega) hlt), h.iter.kept hki, ⟨lv', g1, g3⟩, g2, fun D hD => ⟨(h.marks D hD).1, (hm D (hmd D hD).1 (hmd D hD).2 (Array.getElem?_eq_some_iff.1 (h.marks D hD).2).1).trans (h.marks D hD).2⟩⟩, hki, g4.keepsFrom ⟨_, _, ho⟩ hbc _⟩

/-- The loop's mark for the calls that its rounds may defer. -/
def mark (D : Nat) : Deferred := { target := .collected D, args := #[] }
theorem leaves_marks {F : Fence} {n : Nat} {P : Program} {fn : Func} {tmps : Array Value} {R : Ending → World → Prop} (q : Nat) (v : Value) (w0 : World)
    (hl : ∀ W, W.cell? ⟨q, 0, none⟩ = some v → Below w0.heap.size w0 W → LeavesInM F n P fn tmps R [] .returning W) :
    ∀ (Ds : List Nat) (W : World), Ds.Nodup → (∀ D ∈ Ds, w0.heap.size ≤ D ∧ W.heap[D]? = some (.deferred (some []))) → W.cell? ⟨q, 0, none⟩ = some v → Below w0.heap.size w0 W → LeavesInM F n P fn tmps R (Ds.map mark) .returning W
  | [], W, _, _, hc, hb => hl W hc hb
  | D :: Ds, W, hnd, hm, hc, hb => by
    obtain ⟨hD1, hD2⟩ := hm D List.mem_cons_self
    have hnd' := List.nodup_cons.1 hnd
    refine ⟨by simp, .inl ⟨D, _, rfl, run_takeDeferred hD2, ?_⟩⟩
    refine leaves_marks q v w0 hl Ds _ hnd'.2 (fun E hE => ⟨(hm E (List.mem_cons_of_mem _ hE)).1, ?_⟩) (cell_kept hc (grownBy_putObj' W D (.deferred none)) (fun r e => by cases e; exact ⟨_, hD2, rfl⟩)) (hb.trans (belowK_b (w := w0) (Nat.le_refl _) W D _ _ hD1 hD2 rfl rfl))
    exact (World.putObj_heap_other (show E ≠ D from fun e => hnd'.1 (by rw [← e]; exact hE))).trans (hm E (List.mem_cons_of_mem _ hE)).2
end Go.Proofs.Ytjabcdfbncglnaa
