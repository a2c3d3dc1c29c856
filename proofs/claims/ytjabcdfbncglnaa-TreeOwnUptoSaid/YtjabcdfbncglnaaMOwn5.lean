/- WHAT IS PROVED: the document's Form answers true, with the depth, for the nodes of a well-formed tree and a list with the tree's keys. how many keys and nodes a well-formed tree of a depth has. what Nodes of a tree answers has the form; asks at Nodes answers true. asks at Nodes answers true. facts on rows of rows that are written and appended to. TreeOwn answers true. -/
import Derived.Test.YtjabcdfbncglnaaMOwn4
import Derived.Test.YtjabcdfbncglnaaMOwn2
import Derived.Deep.RegionHeld3
import Derived.Outline
namespace Go.Proofs.Ytjabcdfbncglnaa
open Go.RowKit Go.Proofs.YtjabcdfbncglnaaW.PrintWords Go.Proofs.YtjabcdfbncglnaaW.PrintLast Go.Proofs.YtjabcdfbncglnaaW.PrintMore
open PTreeRanks (S59 k59 z59 S43 k43 z43)
set_option linter.unusedVariables false
set_option linter.unusedSimpArgs false

set_option maxHeartbeats 4000000 in
set_option maxRecDepth 100000 in
theorem form_calls {order : Nat} (h3 : 3 ≤ order) (h4 : order ≤ 64) {t : AT} (hW : WFA order t) {g : Nat} {r : List S43} (hr : bfs g [t] 0 [] = some r) (hn : r.length ≤ 1099511627776) (hd : t.1 + 1 ≤ 1099511627776)
    {An Al : Option Addr} {cn cl : Nat} {l : List S59} {W : World} (hC : Kd.C k43 W An r.length r) (hcn : r.length ≤ cn) (hll : keysOf l = keysOf (listA t)) (hls : l.length ≤ 1099511627776) (hCl : Kd.C k59 W Al l.length l) (hcl : l.length ≤ cl) :
    Calls Try.prog 18 #[.slice An r.length cn, .int .i64 (order : Nat), .slice Al l.length cl] W fun e W' => e = .returned (.tuple #[.bool true, .int .i64 ((1 + t.1 : Nat))]) ∧ Below W.heap.size W W' := by
  have hpos : 0 < r.length := by have := bfs_length hr rfl (Nat.zero_le _); exact this
  obtain ⟨ko, ho⟩ := ordered_bfs hr rfl (Nat.zero_le _) hn
  have hsz : size t.1 t.2 = l.length := by
    have h := congrArg List.length hll
    rw [keysOf_length, keysOf_length] at h
    rw [h]
    exact size_eq t.1 t.2
  have HO := Aside0.mk (PTreeRanks.keystoneref05_ordered.calls ko An cn r true W hC hcn ho)
  have b0 : ((((r.length : Nat) : Int)) == 0) = false := by
    apply Bool.eq_false_iff.2
    intro e
    have e : ((r.length : Nat) : Int) = 0 := by simpa using e
    omega
  have b0n : (r.length == 0) = false := by
    apply Bool.eq_false_iff.2
    intro e
    have e : r.length = 0 := by simpa using e
    omega
  have b0d : decide (((r.length : Nat) : Int) = 0) = false := decide_eq_false (by omega)
  have hne : ¬ r = [] := by intro e; rw [e] at hpos; exact absurd hpos (by decide)
  have hu93 := Try.underlying93
  have hu96 := Try.underlying96
  go_enter Try.func18, Try.ntmps18
  go_wp2_with fail
  refine HO.out.mono ?_
  rintro e w1 ⟨rfl, ⟨n1, rfl⟩⟩
  have hB1 : Below W.heap.size W (W.drewN n1) := pw_below_drewN (Below.refl _ _) n1
  have HC1 := Aside0.mk (Kd.C_below hC hB1)
  have HL1 := Aside0.mk (Kd.C_below hCl hB1)
  have HB1 := Aside0.mk hB1
  generalize W.drewN n1 = W1 at *
  clear HO hB1 hC hCl
  have HF1 : Aside0 (FormI W1 W1.heap.size An r.length cn order 0 (.slice none 0 0) [] (W1.alloc (.cells #[.slice An r.length cn, .int .i64 (order : Nat), .int .i64 0, .slice none 0 0, .int .i64 0, .bool true] 93))) :=
    ⟨heap_alloc_new W1 _, Kd.R_nil _ _ _ _ _, below_mk (Below.refl _ _) _⟩
  have HN : Aside0 (Calls Try.prog 38 #[.pointer (some ⟨W1.heap.size, 0, none⟩), .int .i64 0, .int .i64 1, .agg #[.string ⟨#[]⟩, .string ⟨#[]⟩, .bool false, .bool false]] (W1.alloc (.cells #[.slice An r.length cn, .int .i64 (order : Nat), .int .i64 0, .slice none 0 0, .int .i64 0, .bool true] 93)) fun e W' =>
      e = .returned (.tuple #[]) ∧ Keep9 W1.heap.size (W1.alloc (.cells #[.slice An r.length cn, .int .i64 (order : Nat), .int .i64 0, .slice none 0 0, .int .i64 0, .bool true] 93)) W' ∧ ∃ kv', FormI W1 W1.heap.size An r.length cn order (1 + t.1) kv' ([] ++ keysOf (toList t.1 t.2)) W') := Aside0.mk (node_ok h3 h4 HC1.out hcn (Nat.le_refl _) t.1 t.2 0 1 none none 0 (.slice none 0 0) [] _ (bfs_laid hr) (by
    have h := hW
    unfold WFA at h
    rw [if_pos rfl]
    exact h) HF1.out (.inl rfl) (by omega) (by omega) (by rw [hsz]; simp; omega))
  go_wp2_with fail
  refine HN.out.mono ?_
  rintro e w2 ⟨rfl, hK2, kv2, hF2⟩
  have hkl : ([] ++ keysOf (toList t.1 t.2)).length = l.length := by
    rw [List.nil_append, keysOf_length, ← size_eq, hsz]
  obtain ⟨Ak, ck, rfl, hck, hCk⟩ := Kd.R_reads hF2.2.1
  have f5 : w2.cell? ⟨W1.heap.size, 5, none⟩ = some (.bool true) := (blk_cell hF2.1 5).trans rfl
  have f3 : w2.cell? ⟨W1.heap.size, 3, none⟩ = some (.slice Ak ([] ++ keysOf (toList t.1 t.2)).length ck) := (blk_cell hF2.1 3).trans rfl
  have f2 : w2.cell? ⟨W1.heap.size, 2, none⟩ = some (.int .i64 ((1 + t.1 : Nat))) := (blk_cell hF2.1 2).trans rfl
  have HCK : Aside0 (Kd.C Kd.string w2 Ak l.length (keysOf l)) := ⟨by
    rw [hkl] at hCk
    rw [hll]
    exact hCk⟩
  have HCL := Aside0.mk (Kd.C_below HL1.out hF2.2.2)
  have HB2 : Aside0 (Below W.heap.size W w2) := ⟨below_go hF2.2.2 HB1.out⟩
  rw [hkl] at f3
  clear HN HF1 hK2 hF2 hCk HC1 HL1 HB1
  go_wp2
  go_loopw [9] (fun v9 W' => ∃ j : Nat, v9 = .int .i64 j ∧ j ≤ l.length ∧ Aside0 (Drawn0 w2 W')) (fun v9 _ => l.length - (RowKit.intOf v9).toNat)
  case atStart => exact ⟨0, rfl, Nat.zero_le _, ⟨Drawn0.refl _⟩⟩
  case round =>
    obtain ⟨j, rfl, hj, HD⟩ := hrel
    obtain ⟨⟨nd, rfl⟩⟩ := HD
    by_cases hlt : j < l.length
    · have b1 : decide (((j : Nat) : Int) < ((l.length : Nat) : Int)) = true := decide_eq_true (by omega)
      obtain ⟨ad, rfl, g0, g1⟩ := PTreeRanks.at_T59 HCL.out j (by omega) (by omega)
      rw [rd_eq l j hlt, Int.toNat_natCast] at g0
      have hjk : j < (keysOf l).length := by rw [keysOf_length]; exact hlt
      obtain ⟨ad1, rfl, hk1⟩ := Kd.at_string HCK.out j (by omega) (by omega)
      rw [rdOf_eq _ _ hjk, Int.toNat_natCast] at hk1
      have e : (keysOf l)[j] = l[j].f0 := List.getElem_map (l := l) S59.f0
      rw [e] at hk1
      have p0 : ((0 : Int) ≤ ((j : Nat) : Int)) = True := eq_true (by omega)
      have p1 : (((j : Nat) : Int) < ((l.length : Nat) : Int)) = True := eq_true (by omega)
      generalize l[j].f0 = k at *
      clear g1 e hjk
      go_wp2
      go_quiet (fail)
      go_wp2
      go_roundw
      case measure => show l.length - (j + 1) < l.length - j; omega
      case rel => exact ⟨j + 1, by first | rfl | (simp; done) | (congr 1), hlt, ⟨⟨_, rfl⟩⟩⟩
    · have b1 : decide (((j : Nat) : Int) < ((l.length : Nat) : Int)) = false := decide_eq_false (by omega)
      go_wp2
      go_quiet (fail)
      go_wp2
      go_ret2
      exact ⟨rfl, pw_below_drewN (pw_below_drewN HB2.out _) _⟩
end Go.Proofs.Ytjabcdfbncglnaa
namespace Go.Proofs.Ytjabcdfbncglnaa
open Go.RowKit Go.Proofs.YtjabcdfbncglnaaW.PrintWords Go.Proofs.YtjabcdfbncglnaaW.PrintLast Go.Proofs.YtjabcdfbncglnaaW.PrintMore
open PTreeRanks (S59 k59 z59 S43 k43 z43)
set_option linter.unusedVariables false
set_option linter.unusedSimpArgs false

theorem sum_ge {α : Type} (f : α → Nat) (m : Nat) : ∀ (l : List α), (∀ x ∈ l, m ≤ f x) → l.length * m ≤ (l.map f).sum
  | [], _ => by simp
  | x :: l, h => by
    have ih := sum_ge f m l (fun y hy => h y (List.mem_cons_of_mem _ hy))
    have := h x List.mem_cons_self
    rw [List.map_cons, List.sum_cons, List.length_cons, Nat.add_mul]
    omega

/-- The least number of keys of a node of a depth that is no root. -/
def leastN (order : Nat) : Nat → Nat
  | 0 => order / 2
  | d + 1 => leastN order d * ((order + 1) / 2)

theorem WF_least {order : Nat} : ∀ (d m : Nat) (lo hi : Option ByteArray) (t : T d), WF order d m lo hi t → (m = minOf order d → leastN order d ≤ size d t) ∧ (∀ d', d = d' + 1 → m * leastN order d' ≤ size d t)
  | 0, m, lo, hi, l, h => by
    obtain ⟨l, rfl⟩ : ∃ l' : List S59, l' = l := ⟨l, rfl⟩
    obtain ⟨w1, w2, w3, w4⟩ := WF_zero.1 h
    refine ⟨fun e => ?_, fun d' e => by cases e⟩
    subst e
    exact w4
  | d + 1, m, lo, hi, t, h => by
    obtain ⟨ks, cs, rfl⟩ : ∃ (ks : List ByteArray) (cs : List (T d)), ((ks, cs) : List ByteArray × List (T d)) = t := ⟨t.1, t.2, rfl⟩
    obtain ⟨w1, w2, w3⟩ := WF_succ.1 h
    have hs : cs.length * leastN order d ≤ (cs.map (size d)).sum := sum_ge (size d) _ cs (fun c hc => by
      obtain ⟨l, u, hP⟩ := WK_mem w1 c hc
      exact (WF_least d _ l u c hP).1 rfl)
    have hm : m * leastN order d ≤ (cs.map (size d)).sum := Nat.le_trans (Nat.mul_le_mul_right _ w3) hs
    refine ⟨fun e => ?_, fun d' e => ?_⟩
    · subst e
      show leastN order d * ((order + 1) / 2) ≤ _
      rw [Nat.mul_comm]
      exact hm
    · cases e
      exact hm

theorem nodes_le {order : Nat} (ho : 3 ≤ order) : ∀ (d m : Nat) (lo hi : Option ByteArray) (t : T d), WF order d m lo hi t → nodesN d t ≤ 2 * size d t + 1 ∧ (0 < m → nodesN d t + 1 ≤ 2 * size d t ∨ (0 < d ∧ m < 2))
  | 0, m, lo, hi, l, h => by
    obtain ⟨l, rfl⟩ : ∃ l' : List S59, l' = l := ⟨l, rfl⟩
    obtain ⟨w1, w2, w3, w4⟩ := WF_zero.1 h
    show 1 ≤ 2 * l.length + 1 ∧ (0 < m → 1 + 1 ≤ 2 * l.length ∨ _)
    exact ⟨by omega, fun h => .inl (by omega)⟩
  | d + 1, m, lo, hi, t, h => by
    obtain ⟨ks, cs, rfl⟩ : ∃ (ks : List ByteArray) (cs : List (T d)), ((ks, cs) : List ByteArray × List (T d)) = t := ⟨t.1, t.2, rfl⟩
    obtain ⟨w1, w2, w3⟩ := WF_succ.1 h
    have hmin : 1 ≤ minOf order d ∧ (0 < d → 2 ≤ minOf order d) := by
      cases d with
      | zero => exact ⟨by show 1 ≤ order / 2; omega, fun h => absurd h (Nat.lt_irrefl 0)⟩
      | succ d => exact ⟨by show 1 ≤ (order + 1) / 2; omega, fun _ => by show 2 ≤ (order + 1) / 2; omega⟩
    have hs : ∀ l : List (T d), (∀ c ∈ l, c ∈ cs) → (l.map (nodesN d)).sum + l.length ≤ 2 * (l.map (size d)).sum := by
      intro l
      induction l with
      | nil => intro _; simp
      | cons c l ih =>
        intro hl
        have h1 := ih (fun y hy => hl y (List.mem_cons_of_mem _ hy))
        obtain ⟨lo', hi', hP⟩ := WK_mem w1 c (hl c List.mem_cons_self)
        have h2 := (nodes_le ho d _ lo' hi' c hP).2 hmin.1
        have h3 : nodesN d c + 1 ≤ 2 * size d c := by
          rcases h2 with h2 | ⟨h2, h4⟩
          · exact h2
          · have := hmin.2 h2; omega
        rw [List.map_cons, List.sum_cons, List.map_cons, List.sum_cons, List.length_cons]
        omega
    have h1 := hs cs (fun c hc => hc)
    have h2 := WK_length w1
    show 1 + (cs.map (nodesN d)).sum ≤ 2 * (cs.map (size d)).sum + 1 ∧ (0 < m → 1 + (cs.map (nodesN d)).sum + 1 ≤ 2 * (cs.map (size d)).sum ∨ _)
    refine ⟨by omega, fun hm => ?_⟩
    by_cases h3 : m < 2
    · exact .inr ⟨Nat.succ_pos _, h3⟩
    · exact .inl (by omega)

theorem leastN_ge {order : Nat} (ho : 3 ≤ order) : ∀ d, d + 1 ≤ leastN order d
  | 0 => by show 1 ≤ order / 2; omega
  | d + 1 => by
    have ih := leastN_ge ho d
    show d + 1 + 1 ≤ leastN order d * ((order + 1) / 2)
    have h2 : 2 ≤ (order + 1) / 2 := by omega
    have := Nat.mul_le_mul (Nat.le_refl (leastN order d)) h2
    omega

theorem WFA_depth {order : Nat} (ho : 3 ≤ order) {t : AT} (h : WFA order t) : t.1 ≤ sizeA t := by
  obtain ⟨d, t⟩ := t
  cases d with
  | zero => exact Nat.zero_le _
  | succ d =>
    have h1 := (WF_least _ _ _ _ _ h).2 d rfl
    have h2 := leastN_ge ho d
    show d + 1 ≤ size (d + 1) t
    have e : (if (⟨d + 1, t⟩ : AT).1 = 0 then 0 else 2) = 2 := if_neg (Nat.succ_ne_zero d)
    rw [e] at h1
    have h1 : 2 * leastN order d ≤ size (d + 1) t := h1
    omega
theorem WFA_nodes {order : Nat} (ho : 3 ≤ order) {t : AT} (h : WFA order t) : nodesA t ≤ 2 * sizeA t + 1 := (nodes_le ho _ _ _ _ _ h).1

open PTreeRanks in
theorem half_f (n : Nat) (h : n ≤ 1000) : keystoneref05_half.f (n : Nat) = some (((n + 1) / 2 : Nat) : Int) := by
  unfold keystoneref05_half.f
  rw [wrap_small ((n : Int) + 1) (by omega) (by omega)]
  have e : Int.tdiv ((n : Int) + 1) 2 = (((n + 1) / 2 : Nat) : Int) := by
    rw [Int.tdiv_eq_ediv_of_nonneg (by omega)]
    omega
  rw [e, wrap_small _ (by omega) (by omega)]

theorem leastN_mono {order : Nat} (ho : 3 ≤ order) (a : Nat) : ∀ b, leastN order a ≤ leastN order (a + b)
  | 0 => Nat.le_refl _
  | b + 1 => by
    have ih := leastN_mono ho a b
    show _ ≤ leastN order (a + b) * ((order + 1) / 2)
    have h2 : 1 ≤ (order + 1) / 2 := by omega
    have := Nat.mul_le_mul (Nat.le_refl (leastN order (a + b))) h2
    omega

theorem least_mul (order j : Nat) : ((2 * leastN order j : Nat) : Int) * (((order + 1) / 2 : Nat) : Int) = ((2 * leastN order (j + 1) : Nat) : Int) := by
  rw [← Int.natCast_mul, Nat.mul_assoc]
  rfl
open PTreeRanks in
theorem flat_l {order n d : Nat} (h3 : 3 ≤ order) (h4 : order ≤ 64) (hn : n ≤ 1099511627776) (hl : 2 * leastN order d ≤ n) (hd : d ≤ n) (m : Nat) : ∀ (j : Nat), j + m = d →
    keystoneref05_Flat.l0 (m + 1) (order : Nat) ((1 + (d + 1) : Nat) : Int) (n : Nat) ((2 * leastN order j : Nat) : Int) ((2 + j : Nat) : Int) = some true := by
  induction m with
  | zero =>
    intro j h
    obtain rfl : j = d := by omega
    simp only [keystoneref05_Flat.l0]
    rw [if_neg (by omega)]
    congr 1
    exact decide_eq_true (by omega)
  | succ m ih =>
    intro j h
    have ih := ih (j + 1) (by omega)
    have hm := leastN_mono h3 (j + 1) m
    rw [show j + 1 + m = d by omega] at hm
    have e := least_mul order j
    have e1 : wrap64 ((2 * leastN order (j + 1) : Nat) : Int) = ((2 * leastN order (j + 1) : Nat) : Int) := wrap_small _ (by omega) (by omega)
    have e2 : wrap64 (((2 + j : Nat) : Int) + 1) = ((2 + (j + 1) : Nat) : Int) := by rw [wrap_small _ (by omega) (by omega)]; omega
    have h5 : ¬ ((2 * leastN order (j + 1) : Nat) : Int) > ((n : Nat) : Int) := by omega
    have h6 : ((2 + j : Nat) : Int) < ((1 + (d + 1) : Nat) : Int) := by omega
    have hh := half_f order (by omega)
    generalize ((2 * leastN order (j + 1) : Nat) : Int) = y at *
    generalize ((2 * leastN order j : Nat) : Int) = z at *
    rw [keystoneref05_Flat.l0, if_pos h6, hh, Option.bind_some, e, e1, if_neg h5, e2]
    exact ih

open PTreeRanks in
/-- The document's Flat is true of a well-formed tree. -/
theorem flat_ok {order : Nat} (h3 : 3 ≤ order) (h4 : order ≤ 64) {t : AT} (h : WFA order t) (hn : sizeA t ≤ 1099511627776) : ∃ k, keystoneref05_Flat.f k (order : Nat) ((1 + t.1 : Nat) : Int) ((sizeA t : Nat) : Int) = some true := by
  have hd := WFA_depth h3 h
  obtain ⟨d, t⟩ := t
  cases d with
  | zero =>
    refine ⟨0, ?_⟩
    unfold keystoneref05_Flat.f
    exact if_pos (Int.le_refl _)
  | succ d =>
    have h1 := (WF_least _ _ _ _ _ h).2 d rfl
    have e : (if (⟨d + 1, t⟩ : AT).1 = 0 then 0 else 2) = 2 := if_neg (Nat.succ_ne_zero d)
    rw [e] at h1
    have h1 : 2 * leastN order d ≤ sizeA ⟨d + 1, t⟩ := h1
    have hd : d + 1 ≤ sizeA ⟨d + 1, t⟩ := hd
    generalize sizeA ⟨d + 1, t⟩ = n at *
    have eh : wrap64 (((order : Nat) : Int) - 1) = ((order - 1 : Nat) : Int) := by rw [wrap_small _ (by omega) (by omega)]; omega
    have eo : (order - 1 + 1) / 2 = order / 2 := by omega
    refine ⟨d + 1, ?_⟩
    unfold keystoneref05_Flat.f
    show (if ((1 + (d + 1) : Nat) : Int) ≤ 1 then _ else _) = _
    rw [if_neg (by omega), eh, half_f (order - 1) (by omega), eo]
    have e2 : (2 : Int) * ((order / 2 : Nat) : Int) = ((2 * leastN order 0 : Nat) : Int) := by
      show _ = ((2 * (order / 2) : Nat) : Int)
      omega
    have e3 : wrap64 ((2 * leastN order 0 : Nat) : Int) = ((2 * leastN order 0 : Nat) : Int) := wrap_small _ (by omega) (by show ((2 * (order / 2) : Nat) : Int) < _; omega)
    simp only [Option.bind_some]
    rw [e2, e3]
    by_cases h0 : d = 0
    · subst h0
      rw [if_pos (by omega)]
      congr 1
      exact decide_eq_true (by omega)
    · rw [if_neg (by omega)]
      have := flat_l h3 h4 hn h1 (by omega) d 0 (by omega)
      exact this
end Go.Proofs.Ytjabcdfbncglnaa
namespace Go.Proofs.Ytjabcdfbncglnaa
open Go.RowKit Go.Proofs.YtjabcdfbncglnaaW.PrintWords Go.Proofs.YtjabcdfbncglnaaW.PrintLast Go.Proofs.YtjabcdfbncglnaaW.PrintMore
open PTreeRanks (S59 k59 z59 S43 k43 z43)
set_option linter.unusedVariables false
set_option linter.unusedSimpArgs false

theorem nodeOf_lens {t : AT} (h : GoodA t) (n : Nat) : (nodeOf t n).f1.length ≤ 900 ∧ (nodeOf t n).f2.length ≤ 901 := by
  obtain ⟨d, t⟩ := t
  cases d with
  | zero =>
    have h1 : List.length (α := S59) t ≤ 900 := h.1.2
    exact ⟨by have e : (List.map S59.f0 t).length = List.length (α := S59) t := List.length_map _; exact e ▸ h1, Nat.zero_le _⟩
  | succ d =>
    have h1 : t.2.length = t.1.length + 1 := h.1.2.1
    have h2 : t.1.length ≤ 900 := h.1.2.2.1
    refine ⟨h2, ?_⟩
    show ((List.range t.2.length).map fun i => ((n + i : Nat) : Int)).length ≤ 901
    rw [List.length_map, List.length_range]
    omega
theorem bfs_lens : ∀ {g : Nat} {q : List AT} {i : Nat} {out r : List S43}, bfs g q i out = some r → (∀ t ∈ q, GoodA t) → (∀ x ∈ out, x.f1.length ≤ 900 ∧ x.f2.length ≤ 901) → ∀ x ∈ r, x.f1.length ≤ 900 ∧ x.f2.length ≤ 901
  | 0, q, i, out, r, h, _, _ => by cases h
  | g + 1, q, i, out, r, h, h1, h2 => by
    unfold bfs at h
    cases hq : q[i]? with
    | none =>
      rw [hq] at h
      injection h with h
      subst h
      exact h2
    | some t =>
      rw [hq] at h
      have hg := h1 t (List.mem_of_getElem? hq)
      refine bfs_lens h (fun t' ht => ?_) (fun x hx => ?_)
      · rcases List.mem_append.1 ht with ht | ht
        · exact h1 t' ht
        · exact GoodA_kids hg t' ht
      · rcases List.mem_append.1 hx with hx | hx
        · exact h2 x hx
        · rw [List.mem_singleton.1 hx]
          exact nodeOf_lens hg _

/-- What Nodes of a tree answers. -/
def NodesPost (order : Nat) (l : List S59) (w : World) (e : Ending) (w' : World) : Prop :=
  ∃ (v : Value) (r : List S43) (t : AT) (g : Nat), e = .returned v ∧ Kd.S k43 43 w' w.heap.size (fun _ => True) v r ∧ Below w.heap.size w w' ∧ bfs g [t] 0 [] = some r ∧ WFA order t ∧ listA t = l ∧ r.length ≤ 2 * l.length + 1 ∧ ∀ x ∈ r, x.f1.length ≤ 900 ∧ x.f2.length ≤ 901

theorem TL_nodes {order base bt : Nat} {l : List S59} {w : World} (h : TL order l base bt w) (hl : l.length ≤ 1073741824) : Calls Try.prog 17 #[.pointer (some ⟨bt, 0, none⟩)] w (NodesPost order l w) := by
  obtain ⟨h1, h2, h3, t, rfl, h4, hkl, v, h5, h6⟩ := h
  have hS := Shape_of_WF h1 h2 h4
  have hn := WFA_nodes h1 h4
  rw [sizeA_eq] at hn
  obtain ⟨r, hr, hrl⟩ := bfs_ok (nodesA t + 1) [t] 0 [] (Nat.zero_le _) (by simp)
  have hrl : r.length = nodesA t := by rw [hrl]; simp
  refine (nodes_calls bt t v w ((blk_cell h5 1).trans rfl) ((NK t.1).K_of_M h6) ⟨hS, hkl⟩ _ r hr (by omega)).mono ?_
  rintro e w' ⟨v', rfl, hR, hB⟩
  exact ⟨v', r, t, _, rfl, hR, hB, hr, h4, rfl, by omega, bfs_lens hr (fun t' ht => by rw [List.mem_singleton.1 ht]; exact ⟨hS, hkl⟩) (fun x hx => by cases hx)⟩

/-- The result of Form at the nodes of a tree. -/
theorem Form_of_nodes {order : Nat} (h3 : 3 ≤ order) (h4 : order ≤ 64) {l : List S59} {t : AT} {g : Nat} {r : List S43} (hr : bfs g [t] 0 [] = some r) (hW : WFA order t) (hl : listA t = l) (hrl : r.length ≤ 2 * l.length + 1) (hn : l.length ≤ 1073741824)
    {An Al : Option Addr} {cn cl : Nat} {W : World} (hC : Kd.C k43 W An r.length r) (hcn : r.length ≤ cn) (hCl : Kd.C k59 W Al l.length l) (hcl : l.length ≤ cl) :
    Calls Try.prog 18 #[.slice An r.length cn, .int .i64 (order : Nat), .slice Al l.length cl] W fun e W' => e = .returned (.tuple #[.bool true, .int .i64 ((1 + t.1 : Nat))]) ∧ Below W.heap.size W W' := by
  have hd := WFA_depth h3 hW
  rw [sizeA_eq, hl] at hd
  exact form_calls h3 h4 hW hr (by omega) (by omega) hC hcn (by rw [hl]) (by omega) hCl hcl
end Go.Proofs.Ytjabcdfbncglnaa
namespace Go.Proofs.Ytjabcdfbncglnaa
open Go.RowKit Go.Proofs.YtjabcdfbncglnaaW.PrintWords Go.Proofs.YtjabcdfbncglnaaW.PrintLast Go.Proofs.YtjabcdfbncglnaaW.PrintMore
open PTreeRanks (S59 k59 z59 S43 k43 z43)
set_option linter.unusedVariables false
set_option linter.unusedSimpArgs false

set_option maxHeartbeats 8000000 in
set_option maxRecDepth 100000 in
theorem asks_nodes {order base bt s o cl : Nat} {l : List S59} {Al : Option Addr} {w : World} (h3 : 3 ≤ order) (h4 : order ≤ 64) (hT : TL order l base bt w) (hl : l.length ≤ 1073741824) (x0 : w.cell? ⟨s, o, none⟩ = some (.pointer (some ⟨bt, 0, none⟩)))
    (x1 : w.cell? ⟨s, o + 1, none⟩ = some (.slice Al l.length cl)) (hCl : Kd.C k59 w Al l.length l) (hcl : l.length ≤ cl) (other beyond : Bool) (k k2 : ByteArray) (v i : Int) :
    Calls Try.prog 19 #[.pointer (some ⟨s, o, none⟩), .agg #[.int .i64 8, .bool other, .string k, .string k2, .int .i64 v, .int .i64 i, .bool beyond], .int .i64 (order : Nat)] w fun e w' => e = .returned (.bool true) ∧ Below w.heap.size w w' := by
  have hu46 := Try.underlying46
  have hu27 := Try.underlying27
  have HSK : Aside0 (∀ W', Below w.heap.size w W' → (W'.cell? ⟨s, o, none⟩ = some (.pointer (some ⟨bt, 0, none⟩)) ∧ W'.cell? ⟨s, o + 1, none⟩ = some (.slice Al l.length cl)) ∧ Below w.heap.size w W') := ⟨fun W' hb => ⟨⟨pw_cell_below hb x0, pw_cell_below hb x1⟩, hb⟩⟩
  have HT := Aside0.mk hT
  have HCL := Aside0.mk hCl
  clear x0 x1 hT hCl
  go_enter Try.func19, Try.ntmps19
  go_wp2
  have hB1 := Aside0.mk (below_mk (Below.refl w.heap.size w) (.cells #[.int .i64 8, .bool other, .string k, .string k2, .int .i64 v, .int .i64 i, .bool beyond] 46))
  generalize w.alloc (.cells #[.int .i64 8, .bool other, .string k, .string k2, .int .i64 v, .int .i64 i, .bool beyond] 46) = w1 at *
  refine wp_region_held_drew (S := fun W' => (W'.cell? ⟨s, o, none⟩ = some (.pointer (some ⟨bt, 0, none⟩)) ∧ W'.cell? ⟨s, o + 1, none⟩ = some (.slice Al l.length cl)) ∧ Below w.heap.size w W') (by kernel_rfl) (HSK.out _ (hB1.out.trans (below_drew (Below.refl _ _)))) (fun hHeld => ?_)
  refine wpAnyH_take (i := 0) (v := ?v0) rfl (by kernel_rfl) (by kernel_rfl) (by kernel_rfl) (fun _ _ _ h => h) (Or.inl ⟨by rfl, fun wq hSw => ?y0⟩) (by assumption) ?r0
  case y0 => ((try dsimp only at hSw); go_simp; try with_reducible rfl)
  try simp only [Act.put, List.setIfInBounds_toArray, List.set_cons_zero, List.set_cons_succ, List.getElem_toArray, List.getElem_cons_zero, List.getElem_cons_succ]
  refine wpAnyH_take (i := 1) (v := ?v1) rfl (by kernel_rfl) (by kernel_rfl) (by kernel_rfl) (fun _ _ _ h => h) (Or.inl ⟨by rfl, fun wq hSw => ?y1⟩) (by assumption) ?r1
  case y1 => ((try dsimp only at hSw); go_simp; try with_reducible rfl)
  try simp only [Act.put, List.setIfInBounds_toArray, List.set_cons_zero, List.set_cons_succ, List.getElem_toArray, List.getElem_cons_zero, List.getElem_cons_succ]
  refine wpAnyH_take (i := 2) (v := ?v2) rfl (by kernel_rfl) (by kernel_rfl) (by kernel_rfl) (fun _ _ _ h => h) (Or.inl ⟨by rfl, fun wq hSw => ?y2⟩) (by assumption) ?r2
  case y2 => ((try dsimp only at hSw); go_simp; try with_reducible rfl)
  try simp only [Act.put, List.setIfInBounds_toArray, List.set_cons_zero, List.set_cons_succ, List.getElem_toArray, List.getElem_cons_zero, List.getElem_cons_succ]
  refine wpAnyH_take (i := 3) (v := ?v3) rfl (by kernel_rfl) (by kernel_rfl) (by kernel_rfl) (fun _ _ _ h => h) (Or.inl ⟨by rfl, fun wq hSw => ?y3⟩) (by assumption) ?r3
  case y3 => ((try dsimp only at hSw); go_simp; try with_reducible rfl)
  try simp only [Act.put, List.setIfInBounds_toArray, List.set_cons_zero, List.set_cons_succ, List.getElem_toArray, List.getElem_cons_zero, List.getElem_cons_succ]
  refine wpAnyH_take (i := 5) (v := ?v5) rfl (by kernel_rfl) (by kernel_rfl) (by kernel_rfl) (fun _ _ _ h => h) (Or.inl ⟨by rfl, fun wq hSw => ?y5⟩) (by assumption) ?r5
  case y5 => ((try dsimp only at hSw); go_simp; try with_reducible rfl)
  try simp only [Act.put, List.setIfInBounds_toArray, List.set_cons_zero, List.set_cons_succ, List.getElem_toArray, List.getElem_cons_zero, List.getElem_cons_succ]
  refine wpAnyH_take (i := 6) (v := ?v6) rfl (by kernel_rfl) (by kernel_rfl) (by kernel_rfl) (fun _ _ _ h => h) (Or.inl ⟨by rfl, fun wq hSw => ?y6⟩) (by assumption) ?r6
  case y6 => ((try dsimp only at hSw); go_simp; try with_reducible rfl)
  try simp only [Act.put, List.setIfInBounds_toArray, List.set_cons_zero, List.set_cons_succ, List.getElem_toArray, List.getElem_cons_zero, List.getElem_cons_succ]
  refine wpAnyH_take (i := 7) (v := ?v7) rfl (by kernel_rfl) (by kernel_rfl) (by kernel_rfl) (fun _ _ _ h => h) (Or.inl ⟨by rfl, fun wq hSw => ?y7⟩) (by assumption) ?r7
  case y7 => ((try dsimp only at hSw); go_simp; try with_reducible rfl)
  try simp only [Act.put, List.setIfInBounds_toArray, List.set_cons_zero, List.set_cons_succ, List.getElem_toArray, List.getElem_cons_zero, List.getElem_cons_succ]
  refine wpAnyH_take (i := 8) (v := ?v8) rfl (by kernel_rfl) (by kernel_rfl) (by kernel_rfl) (fun _ _ _ h => h) (Or.inl ⟨by rfl, fun wq hSw => ?y8⟩) (by assumption) ?r8
  case y8 => ((try dsimp only at hSw); go_simp; try with_reducible rfl)
  try simp only [Act.put, List.setIfInBounds_toArray, List.set_cons_zero, List.set_cons_succ, List.getElem_toArray, List.getElem_cons_zero, List.getElem_cons_succ]
  refine wpAnyH_take (i := 9) (v := ?v9) rfl (by kernel_rfl) (by kernel_rfl) (by kernel_rfl) (fun _ _ _ h => h) (Or.inl ⟨by rfl, fun wq hSw => ?y9⟩) (by assumption) ?r9
  case y9 => ((try dsimp only at hSw); go_simp; try with_reducible rfl)
  try simp only [Act.put, List.setIfInBounds_toArray, List.set_cons_zero, List.set_cons_succ, List.getElem_toArray, List.getElem_cons_zero, List.getElem_cons_succ]
  refine wpAnyH_ready (rs := [4]) (by kernel_rfl) (by simp) ?_
  refine AllReadyH.cons (by rfl) (fun K hK => ?_) AllReadyH.nil
  have HN := Aside0.mk (TL_nodes (HT.out.below hHeld.2) hl)
  go_wp2_with (go_at_call 17; refine HN.out.mono ?_; rintro e w4 ⟨vn, r, t, g, rfl, hR4, hB4, hbf, hWt, hlt, hrl, _⟩)
  obtain ⟨An, cn, rfl, hcn, hCn⟩ := Kd.S_reads hR4
  have HBF := Aside0.mk hbf
  have HLT := Aside0.mk hlt
  clear hbf hlt
  have hBn := Aside0.mk (hHeld.2.trans (hB4.mono hHeld.2.size))
  refine hK.out _ _ (HSK.out _ hBn.out) (fun hHeld2 => ?_)
  clear hK hHeld K HN hB4 hBn
  try simp only [Act.put, List.setIfInBounds_toArray, List.set_cons_zero, List.set_cons_succ, List.getElem_toArray, List.getElem_cons_zero, List.getElem_cons_succ]
  refine wpAnyH_ready (rs := [10]) (by kernel_rfl) (by simp) ?_
  refine AllReadyH.cons (by rfl) (fun K hK => ?_) AllReadyH.nil
  have HF := Aside0.mk (Form_of_nodes h3 h4 HBF.out hWt HLT.out hrl hl hCn hcn (Kd.C_below HCL.out hHeld2.2) hcl)
  have HH2 := Aside0.mk hHeld2
  have HW4 := Aside0.mk hWt
  clear hCn hR4 hHeld2 hWt hrl hcn HBF
  rw [if_pos (by rfl)]
  go_wp2_with fail
  refine HF.out.mono ?_
  rintro e w5 ⟨rfl, hB5⟩
  have hBn := Aside0.mk (HH2.out.2.trans (hB5.mono HH2.out.2.size))
  refine hK.out _ _ (HSK.out _ hBn.out) (fun hHeld3 => ?_)
  clear hK HH2 K HF hB5
  try simp only [Act.put, List.setIfInBounds_toArray, List.set_cons_zero, List.set_cons_succ, List.getElem_toArray, List.getElem_cons_zero, List.getElem_cons_succ]
  refine wpAnyH_take (i := 11) (v := ?v11) rfl (by kernel_rfl) (by kernel_rfl) (by kernel_rfl) (fun _ _ _ h => h) (Or.inl ⟨by rfl, fun wq hSw => ?y11⟩) (by assumption) ?r11
  case y11 => ((try dsimp only at hSw); go_simp; try with_reducible rfl)
  try simp only [Act.put, List.setIfInBounds_toArray, List.set_cons_zero, List.set_cons_succ, List.getElem_toArray, List.getElem_cons_zero, List.getElem_cons_succ]
  refine wpAnyH_take (i := 12) (v := ?v12) rfl (by kernel_rfl) (by kernel_rfl) (by kernel_rfl) (fun _ _ _ h => h) (Or.inl ⟨by rfl, fun wq hSw => ?y12⟩) (by assumption) ?r12
  case y12 => ((try dsimp only at hSw); go_simp; try with_reducible rfl)
  try simp only [Act.put, List.setIfInBounds_toArray, List.set_cons_zero, List.set_cons_succ, List.getElem_toArray, List.getElem_cons_zero, List.getElem_cons_succ]
  refine wpAnyH_take (i := 13) (v := ?v13) rfl (by kernel_rfl) (by kernel_rfl) (by kernel_rfl) (fun _ _ _ h => h) (Or.inl ⟨by rfl, fun wq hSw => ?y13⟩) (by assumption) ?r13
  case y13 => ((try dsimp only at hSw); go_simp; try with_reducible rfl)
  try simp only [Act.put, List.setIfInBounds_toArray, List.set_cons_zero, List.set_cons_succ, List.getElem_toArray, List.getElem_cons_zero, List.getElem_cons_succ]
  refine wpAnyH_take (i := 14) (v := ?v14) rfl (by kernel_rfl) (by kernel_rfl) (by kernel_rfl) (fun _ _ _ h => h) (Or.inl ⟨by rfl, fun wq hSw => ?y14⟩) (by assumption) ?r14
  case y14 => ((try dsimp only at hSw); go_simp; try with_reducible rfl)
  try simp only [Act.put, List.setIfInBounds_toArray, List.set_cons_zero, List.set_cons_succ, List.getElem_toArray, List.getElem_cons_zero, List.getElem_cons_succ]
  refine wpAnyH_take (i := 15) (v := ?v15) rfl (by kernel_rfl) (by kernel_rfl) (by kernel_rfl) (fun _ _ _ h => h) (Or.inl ⟨by rfl, fun wq hSw => ?y15⟩) (by assumption) ?r15
  case y15 => ((try dsimp only at hSw); go_simp; try with_reducible rfl)
  try simp only [Act.put, List.setIfInBounds_toArray, List.set_cons_zero, List.set_cons_succ, List.getElem_toArray, List.getElem_cons_zero, List.getElem_cons_succ]
  refine wpAnyH_done (by kernel_rfl) ?_ _
  obtain ⟨⟨x0, x1⟩, hB5⟩ := hHeld3
  obtain ⟨kf, hf⟩ := flat_ok h3 h4 HW4.out (by rw [sizeA_eq, HLT.out]; omega)
  rw [sizeA_eq, HLT.out] at hf
  have HFL := Aside0.mk (PTreeRanks.keystoneref05_Flat.calls kf _ _ _ true w5 hf)
  have HB5 := Aside0.mk hB5
  clear hf hB5 hBn HSK
  go_wp2_with fail
  refine HFL.out.mono ?_
  rintro e w6 ⟨rfl, hD6⟩
  go_wp2
  go_ret
  obtain ⟨⟨n6, rfl⟩⟩ := hD6
  exact ⟨rfl, pw_below_drewN HB5.out _⟩
end Go.Proofs.Ytjabcdfbncglnaa
namespace Go.Proofs.Ytjabcdfbncglnaa
open Go.RowKit Go.Proofs.YtjabcdfbncglnaaW.PrintWords Go.Proofs.YtjabcdfbncglnaaW.PrintLast Go.Proofs.YtjabcdfbncglnaaW.PrintMore
open PTreeRanks (S59 k59 z59 S43 k43 z43)
set_option linter.unusedVariables false
set_option linter.unusedSimpArgs false

/-- A row of one's own with n elements, whatever they are; its block is one that f gives to j. -/
def RowN (f : Nat → Nat) (j : Nat) (W : World) (B e : Nat) (v : Value) (n : Nat) : Prop :=
  n ≤ 901 ∧ (∃ xs, W.ownsRow B e 1 v n xs) ∧ ∀ k, v.ownBlock = some k → f k = j

theorem RowN.step {f : Nat → Nat} {j B e n : Nat} {W W' : World} {v : Value} (h : RowN f j W B e v n) (hm : ∀ k, v.ownBlock = some k → W'.heap[k]? = W.heap[k]?) : RowN f j W' B e v n := by
  obtain ⟨h1, ⟨xs, h2⟩, h3⟩ := h
  exact ⟨h1, ⟨xs, own_move h2 hm⟩, h3⟩
theorem RowN.lt {f : Nat → Nat} {j B e n : Nat} {W : World} {v : Value} (h : RowN f j W B e v n) (k : Nat) (hk : v.ownBlock = some k) : k < W.heap.size := by
  obtain ⟨h1, ⟨xs, h2⟩, h3⟩ := h
  exact own_lt h2 k hk
theorem RowN.typed {f : Nat → Nat} {j B e n : Nat} {W : World} {v : Value} (h : RowN f j W B e v n) (k : Nat) (hk : v.ownBlock = some k) : ∃ c, W.heap[k]? = some (.cells c e (0, 0)) := by
  obtain ⟨h1, ⟨xs, h2⟩, h3⟩ := h
  exact own_typed h2 k hk
theorem RowN.base {f : Nat → Nat} {j B e n : Nat} {W : World} {v : Value} (h : RowN f j W B e v n) (k : Nat) (hk : v.ownBlock = some k) : B ≤ k := by
  obtain ⟨h1, ⟨xs, h2⟩, h3⟩ := h
  exact own_base h2 k hk
/-- Its shape. -/
theorem RowN.shape {f : Nat → Nat} {j B e n : Nat} {W : World} {v : Value} (h : RowN f j W B e v n) : (v = .slice none 0 0 ∧ n = 0) ∨ ∃ g cap cur, v = .slice (some ⟨g, 0, none⟩) n cap ∧ B ≤ g ∧ W.heap[g]? = some (.cells cur e (0, 0)) ∧ n ≤ cap ∧ cap ≤ maxLen ∧ cur.size = cap := by
  obtain ⟨h1, ⟨xs, h2⟩, h3⟩ := h
  rcases h2.2 with h | ⟨g, cap, cur, a1, a2, a3, a4, a5, a6, _⟩
  · exact .inl h
  · exact .inr ⟨g, cap, cur, a1, a2, a3, a4, a5, by omega⟩
/-- A store into it. -/
theorem RowN.set {f : Nat → Nat} {j B e n g cap i : Nat} {W : World} (h : RowN f j W B e (.slice (some ⟨g, 0, none⟩) n cap) n) (u : Value) : RowN f j (W.setCell ⟨g, i, none⟩ u) B e (.slice (some ⟨g, 0, none⟩) n cap) n := by
  have h3 := h.2.2
  rcases h.shape with ⟨h9, _⟩ | ⟨g', cap', cur, e1, a2, a3, a4, a5, a6⟩
  · cases h9
  · cases e1
    refine ⟨h.1, ⟨((cur.setIfInBounds i u).toList.take (n * 1)), ?_, .inr ⟨g, cap, cur.setIfInBounds i u, rfl, a2, blk_set a3 i u, a4, a5, ?_, rfl⟩⟩, h3⟩
    · rw [List.length_take, Array.length_toList, Array.size_setIfInBounds]
      omega
    · rw [Array.size_setIfInBounds]
      omega

/-- Element j of the row of nodes in cells cur. -/
def ElemN (f : Nat → Nat) (W : World) (B : Nat) (cur : Array Value) (j : Nat) : Prop :=
  ∃ v1 n1 v2 n2, cur[j * 3 + 1]? = some v1 ∧ cur[j * 3 + 2]? = some v2 ∧ RowN f j W B 9 v1 n1 ∧ RowN f j W B 3 v2 n2
theorem ElemN.step {f : Nat → Nat} {W W' : World} {B j : Nat} {cur : Array Value} (h : ElemN f W B cur j) (hm : ∀ k c t, f k = j → (t = 9 ∨ t = 3) → W.heap[k]? = some (.cells c t (0, 0)) → W'.heap[k]? = W.heap[k]?) : ElemN f W' B cur j := by
  obtain ⟨v1, n1, v2, n2, h1, h2, h3, h4⟩ := h
  refine ⟨v1, n1, v2, n2, h1, h2, h3.step (fun k hk => ?_), h4.step (fun k hk => ?_)⟩
  · obtain ⟨c, hc⟩ := h3.typed k hk
    exact hm k c 9 (h3.2.2 k hk) (.inl rfl) hc
  · obtain ⟨c, hc⟩ := h4.typed k hk
    exact hm k c 3 (h4.2.2 k hk) (.inr rfl) hc

/-- What stands of the row of nodes from element i on. -/
def OwnI (f : Nat → Nat) (W : World) (B gT cap n i : Nat) (cur : Array Value) : Prop :=
  W.heap[gT]? = some (.cells cur 43 (0, 0)) ∧ B ≤ gT ∧ cur.size = cap * 3 ∧ n ≤ cap ∧ ∀ j, i ≤ j → j < n → ElemN f W B cur j

theorem OwnI.step {f : Nat → Nat} {W W' : World} {B gT cap n i i' : Nat} {cur : Array Value} (h : OwnI f W B gT cap n i cur) (hi : i ≤ i') (hT : W'.heap[gT]? = W.heap[gT]?)
    (hm : ∀ k c t, (∃ j, i' ≤ j ∧ f k = j) → (t = 9 ∨ t = 3) → W.heap[k]? = some (.cells c t (0, 0)) → W'.heap[k]? = W.heap[k]?) : OwnI f W' B gT cap n i' cur := by
  obtain ⟨h1, h2, h3, h4, h5⟩ := h
  exact ⟨hT.trans h1, h2, h3, h4, fun j h6 h7 => (h5 j (Nat.le_trans hi h6) h7).step (fun k c t e ht hc => hm k c t ⟨j, h6, e⟩ ht hc)⟩

/-- A store into a row of element i. -/
theorem OwnI.store {f : Nat → Nat} {W : World} {B gT cap n i g e k : Nat} {cur c : Array Value} (h : OwnI f W B gT cap n (i + 1) cur) (hf : f g = i) (hg : W.heap[g]? = some (.cells c e (0, 0))) (he : e ≠ 43) (u : Value) : OwnI f (W.setCell ⟨g, k, none⟩ u) B gT cap n (i + 1) cur := by
  refine h.step (Nat.le_refl _) (Below.heap_setCell W ⟨g, k, none⟩ u gT ?_) ?_
  · intro e1
    have e1 : gT = g := e1
    have h0 := h.1
    rw [e1, hg] at h0
    injection h0 with h1
    injection h1 with _ h1 _
    exact he h1
  · rintro k' c' t ⟨j, h1, h2⟩ _ _
    exact Below.heap_setCell W ⟨g, k, none⟩ u k' (by intro e1; have e1 : k' = g := e1; rw [e1, hf] at h2; omega)

/-- A store into cell 1 or 2 of element i. -/
theorem OwnI.top {f : Nat → Nat} {W : World} {B gT cap n i o : Nat} {cur : Array Value} (h : OwnI f W B gT cap n (i + 1) cur) (ho : o < (i + 1) * 3) (u : Value) : OwnI f (W.setCell ⟨gT, o, none⟩ u) B gT cap n (i + 1) (cur.setIfInBounds o u) := by
  obtain ⟨h1, h2, h3, h4, h5⟩ := h
  refine ⟨blk_set h1 o u, h2, by rw [Array.size_setIfInBounds]; exact h3, h4, fun j h6 h7 => ?_⟩
  obtain ⟨v1, n1, v2, n2, e1, e2, r1, r2⟩ := h5 j h6 h7
  have hne : ∀ (k : Nat) (c : Array Value) (t : Nat), (t = 9 ∨ t = 3) → W.heap[k]? = some (.cells c t (0, 0)) → (W.setCell ⟨gT, o, none⟩ u).heap[k]? = W.heap[k]? := by
    intro k c t ht hc
    refine Below.heap_setCell W ⟨gT, o, none⟩ u k ?_
    intro e
    have e : k = gT := e
    rw [e, h1] at hc
    injection hc with hc
    injection hc with _ hc _
    rcases ht with rfl | rfl <;> exact absurd hc (by decide)
  refine ⟨v1, n1, v2, n2, ?_, ?_, r1.step (fun k hk => ?_), r2.step (fun k hk => ?_)⟩
  · rw [Array.getElem?_setIfInBounds_ne (by omega)]; exact e1
  · rw [Array.getElem?_setIfInBounds_ne (by omega)]; exact e2
  · obtain ⟨c, hc⟩ := r1.typed k hk; exact hne k c 9 (.inl rfl) hc
  · obtain ⟨c, hc⟩ := r2.typed k hk; exact hne k c 3 (.inr rfl) hc

/-- Where it begins: the row that Nodes answers. -/
theorem own_start {W : World} {B : Nat} {ok : Nat → Prop} {v : Value} {r : List S43} (h : Kd.S k43 43 W B ok v r) (hp : 0 < r.length) (hl : ∀ x ∈ r, x.f1.length ≤ 900 ∧ x.f2.length ≤ 901) :
    ∃ f gT cap cur, v = .slice (some ⟨gT, 0, none⟩) r.length cap ∧ gT < W.heap.size ∧ OwnI f W B gT cap r.length 0 cur := by
  obtain ⟨f, h0, inner, ho, hr⟩ := h
  rw [List.length_zipIdx] at ho
  rcases ho.2 with ⟨_, h9⟩ | ⟨g, cap, cur, a1, a2, a3, a4, a5, a6, a7⟩
  · omega
  · refine ⟨f, g, cap, cur, a1, blk_lt a3, a3, a2, a6, a4, fun j _ hj => ?_⟩
    have hz : r.zipIdx[j]? = some (r[j], j) := by
      rw [List.getElem?_zipIdx, List.getElem?_eq_getElem hj]
      simp
    have a6 : cur.size = cap * 3 := a6
    have a7 : List.take (r.length * 3) cur.toList = inner := a7
    have hM : k43.M W B (fun k => (ok k ∧ some k ≠ v.ownBlock) ∧ f k = j) r[j] ((inner.drop (j * 3)).take 3) := hr.2 j _ hz
    obtain ⟨v1, v2, e, g1, g2⟩ := PTreeRanks.k43_openM hM
    have hlen := hl r[j] (List.getElem_mem hj)
    have hget : ∀ m, m < 3 → cur[j * 3 + m]? = ([.bool r[j].f0, v1, v2] : List Value)[m]? := by
      intro m hm
      rw [← e, List.getElem?_take, if_pos hm, List.getElem?_drop, ← a7, List.getElem?_take, if_pos (show j * 3 + m < r.length * 3 by omega)]
      simp
    refine ⟨v1, r[j].f1.length, v2, r[j].f2.length, hget 1 (by omega), hget 2 (by omega), ?_, ?_⟩
    · obtain ⟨i1, o1⟩ := Kd.R_own g1
      exact ⟨by omega, ⟨_, o1⟩, fun k hk => (g1.1 k hk).2⟩
    · obtain ⟨i2, o2⟩ := Kd.R_own g2
      exact ⟨by omega, ⟨_, o2⟩, fun k hk => (g2.1 k hk).2⟩
end Go.Proofs.Ytjabcdfbncglnaa
namespace Go.Proofs.Ytjabcdfbncglnaa
open Go.RowKit Go.Proofs.YtjabcdfbncglnaaW.PrintWords Go.Proofs.YtjabcdfbncglnaaW.PrintLast Go.Proofs.YtjabcdfbncglnaaW.PrintMore
open PTreeRanks (S59 k59 z59 S43 k43 z43)
set_option linter.unusedVariables false
set_option linter.unusedSimpArgs false

set_option maxRecDepth 100000 in
set_option maxHeartbeats 4000000 in
theorem own_bad (n : Int) (h : n < 3 ∨ 64 < n) (v : Value) (w : World) : Calls Try.prog 4 #[.int .i64 n, v] w fun e w' => e = .returned (.bool true) ∧ Below w.heap.size w w' := by
  have HL := Aside0.mk (live_calls w)
  by_cases h1 : n < 3
  · have b1 : decide (n < 3) = true := decide_eq_true h1
    go_enter Try.func4, Try.ntmps4
    go_wp2_with fail
    refine HL.out.mono ?_
    rintro e w' ⟨rfl, hb⟩
    go_wp2
    go_ret
    exact ⟨rfl, hb⟩
  · have b1 : decide (n < 3) = false := decide_eq_false h1
    have b2 : decide (64 < n) = true := decide_eq_true (by omega)
    go_enter Try.func4, Try.ntmps4
    go_wp2_with fail
    refine HL.out.mono ?_
    rintro e w' ⟨rfl, hb⟩
    go_wp2
    go_ret
    exact ⟨rfl, hb⟩

theorem RowN.slice {f : Nat → Nat} {j B e n : Nat} {W : World} {v : Value} (h : RowN f j W B e v n) : ∃ A c, v = .slice A n c := by
  rcases h.shape with ⟨rfl, rfl⟩ | ⟨g, cap, cur, rfl, _⟩
  · exact ⟨_, _, rfl⟩
  · exact ⟨_, _, rfl⟩
theorem blk_ty {w : World} {g t t' : Nat} {c c' : Array Value} (h : w.heap[g]? = some (.cells c t (0, 0))) (h' : w.heap[g]? = some (.cells c' t' (0, 0))) : t = t' := by
  rw [h] at h'
  injection h' with h'
  injection h' with _ h' _
/-- An append to a row of element j, stored back into cell o of it. -/
theorem own_app {f : Nat → Nat} {B gT cap n j o n1 c1 e : Nat} {cur : Array Value} {wr w6 wo : World} {v5 : Value} {A1 : Option Addr} {xs : List Value} (he : e = 9 ∨ e = 3) (ho : j * 3 + o < (j + 1) * 3) (h1 : OwnI f wr B gT cap n (j + 1) cur) (h2 : RowN f j wr B e (.slice A1 n1 c1) n1)
    (he1 : cur[j * 3 + o]? = some (.slice A1 n1 c1)) (ho5 : w6.ownsRow B e 1 v5 (n1 + 1) xs) (hb5 : Below B wo w6) (hg5 : wr.grownBy w6 (Value.slice A1 n1 c1).ownBlock) :
    ∃ g5 cap5, v5 = .slice (some ⟨g5, 0, none⟩) (n1 + 1) cap5 ∧ w6.cell? ⟨gT, j * 3 + o, none⟩ = some (.slice A1 n1 c1) ∧ w6.frozen? ⟨gT, j * 3 + o, none⟩ = false ∧
      Aside0 (OwnI f (w6.setCell ⟨gT, j * 3 + o, none⟩ (.slice (some ⟨g5, 0, none⟩) (n1 + 1) cap5)) B gT cap n (j + 1) (cur.setIfInBounds (j * 3 + o) (.slice (some ⟨g5, 0, none⟩) (n1 + 1) cap5)) ∧ Below B wo (w6.setCell ⟨gT, j * 3 + o, none⟩ (.slice (some ⟨g5, 0, none⟩) (n1 + 1) cap5))) := by
  have hI6 : OwnI f w6 B gT cap n (j + 1) cur := by
    refine h1.step (Nat.le_refl _) (hg5.block gT (blk_lt h1.1) (fun e9 => ?_)) ?_
    · obtain ⟨cc, hcc⟩ := h2.typed gT e9.symm
      have := blk_ty h1.1 hcc
      omega
    · rintro k' c' t' ⟨j', a1, a2⟩ _ a3
      refine hg5.block k' (blk_lt a3) (fun e9 => ?_)
      have := h2.2.2 k' e9.symm
      omega
  rcases ho5.2 with ⟨_, h9⟩ | ⟨g', cap', cur', a1, a2, a3, a4, _⟩
  · omega
  · exact ⟨g', cap', a1, (blk_cell hI6.1 _).trans he1, blk_frozen hI6.1 _, ⟨hI6.top ho _, hb5.setCell (p := ⟨gT, j * 3 + o, none⟩) h1.2.1 _⟩⟩
/-- .. and another row of element j lies as it lay. -/
theorem own_keep {f : Nat → Nat} {B gT cap n j o n1 n2 e e' : Nat} {cur : Array Value} {wr w6 : World} {v1 v2 u : Value} (h1 : OwnI f wr B gT cap n (j + 1) cur) (h2 : RowN f j wr B e v1 n1) (h3 : RowN f j wr B e' v2 n2) (he : e ≠ e') (he' : e' ≠ 43)
    (hg5 : wr.grownBy w6 v1.ownBlock) : RowN f j (w6.setCell ⟨gT, o, none⟩ u) B e' v2 n2 := by
  refine h3.step (fun k' hk' => ?_)
  obtain ⟨cc, hcc⟩ := h3.typed k' hk'
  refine (Below.heap_setCell w6 ⟨gT, o, none⟩ _ k' (fun e9 => ?_)).trans (hg5.block k' (blk_lt hcc) (fun e9 => ?_))
  · have e9 : k' = gT := e9
    subst e9
    exact he' (blk_ty hcc h1.1)
  · obtain ⟨c', hc'⟩ := h2.typed k' e9.symm
    exact he (blk_ty hc' hcc)
/-- What stands while the rows of element i are written. -/
def OwnC (f : Nat → Nat) (B gT cap n i : Nat) (cur : Array Value) (v1 : Value) (n1 : Nat) (v2 : Value) (n2 : Nat) (Wb W : World) : Prop :=
  OwnI f W B gT cap n (i + 1) cur ∧ RowN f i W B 9 v1 n1 ∧ RowN f i W B 3 v2 n2 ∧ Below B Wb W

set_option maxRecDepth 100000 in
set_option maxHeartbeats 8000000 in
theorem own_good (order : Nat) (h3 : 3 ≤ order) (h4 : order ≤ 64) (A : Option Addr) (c : Nat) (ks : List ByteArray) (w : World) (hC : Kd.C Kd.string w A ks.length ks) (hc : ks.length ≤ c) (hn : ks.length ≤ 2097152) (hz : ∀ k ∈ ks, k.size ≤ 281474976710656) :
    Calls Try.prog 4 #[.int .i64 (order : Nat), .slice A ks.length c] w fun e w' => e = .returned (.bool true) ∧ Below w.heap.size w w' := by
  have HF := Aside0.mk (filled_calls order h3 h4 A c ks w hC hc hn hz)
  have b1 : decide (((order : Nat) : Int) < 3) = false := decide_eq_false (by omega)
  have b3 : decide ((64 : Int) < ((order : Nat) : Int)) = false := decide_eq_false (by omega)
  have hlen := fillL_length ks 0 []
  rw [List.length_nil, Nat.zero_add] at hlen
  have hlen : (fillL ks 0 []).length ≤ 1073741824 := by omega
  clear hC
  have hu27 := Try.underlying27
  go_enter Try.func4, Try.ntmps4
  go_wp2_with fail
  refine HF.out.mono ?_
  rintro e w1 ⟨lv, rfl, hT1, hR1, hB1⟩
  obtain ⟨A3, c3, rfl, hc3, hC3⟩ := Kd.R_reads hR1
  generalize fillL ks 0 [] = l at *
  have HL := Aside0.mk (live_calls (w1.alloc (.cells #[.pointer (some ⟨w.heap.size + 3, 0, none⟩), .slice A3 l.length c3] 27)))
  have hBa : Below w1.heap.size w1 (w1.alloc (.cells #[.pointer (some ⟨w.heap.size + 3, 0, none⟩), .slice A3 l.length c3] 27)) := below_mk (Below.refl _ _) _
  have HT1 := Aside0.mk (hT1.below hBa)
  have HC1 := Aside0.mk (Kd.C_below hC3 hBa)
  have HB1 := Aside0.mk (below_go hBa hB1)
  have HS1 := Aside0.mk (heap_alloc_new w1 (.cells #[.pointer (some ⟨w.heap.size + 3, 0, none⟩), .slice A3 l.length c3] 27))
  clear HF hT1 hR1 hB1 hC3 hBa
  go_wp2_with fail
  refine HL.out.mono ?_
  rintro e w2 ⟨rfl, hB2⟩
  have HT2 := Aside0.mk (HT1.out.below hB2)
  have HC2 := Aside0.mk (Kd.C_below HC1.out hB2)
  have HB2 := Aside0.mk (below_go hB2 HB1.out)
  have HS2 := Aside0.mk ((hB2.block _ (blk_lt HS1.out)).trans HS1.out)
  clear HL HT1 HC1 HB1 HS1 hB2
  generalize w1.heap.size = s at *
  go_wp2
  go_loopw [29] (fun v29 W => ∃ i : Nat, v29 = .int .i64 i ∧ i ≤ 2 ∧ Aside0 (Below w2.heap.size w2 W)) (fun v29 _ => 2 - (RowKit.intOf v29).toNat)
  case atStart => exact ⟨0, rfl, Nat.zero_le _, ⟨Below.refl _ _⟩⟩
  case round =>
    obtain ⟨i, rfl, hi, HB⟩ := hrel
    have HTr := Aside0.mk (HT2.out.below HB.out)
    have HCr := Aside0.mk (Kd.C_below HC2.out HB.out)
    have HSr := Aside0.mk ((HB.out.block _ (blk_lt HS2.out)).trans HS2.out)
    have y0 : wr.cell? ⟨s, 0, none⟩ = some (.pointer (some ⟨w.heap.size + 3, 0, none⟩)) := (blk_cell HSr.out 0).trans rfl
    have y1 : wr.cell? ⟨s, 1, none⟩ = some (.slice A3 l.length c3) := (blk_cell HSr.out 1).trans rfl
    by_cases hlt : i < 2
    · have b4 : decide (((i : Nat) : Int) < 2) = true := decide_eq_true (by omega)
      have HN := Aside0.mk (TL_nodes HTr.out hlen)
      go_wp2_with fail
      refine HN.out.mono ?_
      rintro e w4 ⟨vn, r, t, g, rfl, hS4, hB4, hbf, hWt, hlt2, hrl, hlens⟩
      have hpos : 0 < r.length := by have := bfs_length hbf rfl (Nat.zero_le _); exact this
      obtain ⟨f, gT, cap, cur, rfl, hgT, hO4⟩ := own_start hS4 hpos hlens
      obtain ⟨A4, c4, e4, hc4, hC4⟩ := Kd.S_reads hS4
      cases e4
      have HF := Aside0.mk (Form_of_nodes h3 h4 hbf hWt hlt2 hrl hlen hC4 hc4 (Kd.C_below HCr.out hB4) hc3)
      have z1 := pw_cell_below hB4 y1
      have HO4 := Aside0.mk hO4
      have HB4 := Aside0.mk hB4
      have hnr : r.length ≤ 4294967296 := by omega
      clear hS4 hbf hWt hlt2 hrl hlens hC4 hO4 hB4 HN y0 y1
      go_wp2_with fail
      refine HF.out.mono ?_
      rintro e w5 ⟨rfl, hB5⟩
      have HO5 : Aside0 (OwnI f w5 wr.heap.size gT cap r.length 0 cur) := ⟨HO4.out.step (Nat.le_refl _) (hB5.block gT hgT) (fun k c t _ _ hc => hB5.block k (blk_lt hc))⟩
      have HB5 : Aside0 (Below wr.heap.size wr w5) := ⟨below_go hB5 HB4.out⟩
      clear HF HO4 HB4 hB5 z1
      go_wp2
      obtain ⟨wo, rfl⟩ : ∃ wo : World, wo = wr := ⟨_, rfl⟩
      clear hgT hc4
      have HTW := HTr
      clear HTr HCr HSr
      go_loopw [46] (fun v46 W => ∃ (j : Nat) (cur : Array Value), v46 = .int .i64 j ∧ j ≤ r.length ∧ Aside0 (OwnI f W wo.heap.size gT cap r.length j cur ∧ Below wo.heap.size wo W)) (fun v46 _ => r.length - (RowKit.intOf v46).toNat)
      case atStart => exact ⟨0, cur, rfl, Nat.zero_le _, ⟨HO5.out, HB5.out⟩⟩
      case round =>
        clear HO5 HB5 cur
        obtain ⟨j, cur, rfl, hj, HI⟩ := hrel
        by_cases hjl : j < r.length
        · have b5 : decide (((j : Nat) : Int) < ((r.length : Nat) : Int)) = true := decide_eq_true (by omega)
          have p0 : ((0 : Int) ≤ ((j : Nat) : Int)) = True := eq_true (by omega)
          have p1 : (((j : Nat) : Int) < ((r.length : Nat) : Int)) = True := eq_true (by omega)
          obtain ⟨v1, n1, v2, n2, e1, e2, R1, R2⟩ := HI.out.1.2.2.2.2 j (Nat.le_refl _) hjl
          obtain ⟨A1, c1, rfl⟩ := R1.slice
          obtain ⟨A2, c2, rfl⟩ := R2.slice
          have x1 : wr.cell? ⟨gT, j * 3 + 1, none⟩ = some (.slice A1 n1 c1) := (blk_cell HI.out.1.1 _).trans e1
          have HC : Aside0 (OwnC f wo.heap.size gT cap r.length j cur (.slice A1 n1 c1) n1 (.slice A2 n2 c2) n2 wo wr) := ⟨HI.out.1.step (Nat.le_succ _) rfl (fun _ _ _ _ _ _ => rfl), R1, R2, HI.out.2⟩
          have HE1 := Aside0.mk e1
          have HE2 := Aside0.mk e2
          have hn1 : n1 ≤ 901 := R1.1
          have hn2 : n2 ≤ 901 := R2.1
          clear R1 R2 e1 e2 HI
          go_wp2
          clear x1
          obtain ⟨wa, rfl⟩ : ∃ wa : World, wa = wr := ⟨_, rfl⟩
          go_loopw [55] (fun v55 W => ∃ k : Nat, v55 = .int .i64 k ∧ k ≤ n1 ∧ Aside0 (OwnC f wo.heap.size gT cap r.length j cur (.slice A1 n1 c1) n1 (.slice A2 n2 c2) n2 wo W)) (fun v55 _ => n1 - (RowKit.intOf v55).toNat)
          case atStart => exact ⟨0, rfl, Nat.zero_le _, HC⟩
          case round =>
            clear HC
            obtain ⟨k, rfl, hk, HC⟩ := hrel
            have x1 : wr.cell? ⟨gT, j * 3 + 1, none⟩ = some (.slice A1 n1 c1) := (blk_cell HC.out.1.1 _).trans HE1.out
            by_cases hkl : k < n1
            · have b6 : decide (((k : Nat) : Int) < ((n1 : Nat) : Int)) = true := decide_eq_true (by omega)
              have q0 : ((0 : Int) ≤ ((k : Nat) : Int)) = True := eq_true (by omega)
              have q1 : (((k : Nat) : Int) < ((n1 : Nat) : Int)) = True := eq_true (by omega)
              rcases HC.out.2.1.shape with ⟨h8, h9⟩ | ⟨g1, cap1, cur1, ev, hg1, hh1, hc1, hm1, hz1⟩
              · omega
              cases ev
              have t1 : wr.cell? ⟨g1, k, none⟩ = some (cur1[k]'(by omega)) := (blk_cell hh1 k).trans (Array.getElem?_eq_getElem (by omega))
              have t2 : wr.frozen? ⟨g1, k, none⟩ = false := blk_frozen hh1 k
              have HC' : Aside0 (OwnC f wo.heap.size gT cap r.length j cur (.slice (some ⟨g1, 0, none⟩) n1 c1) n1 (.slice A2 n2 c2) n2 wo (wr.setCell ⟨g1, k, none⟩ (.string ⟨#[63]⟩))) := by
                obtain ⟨o1, o2, o3, o4⟩ := HC.out
                refine ⟨o1.store (o2.2.2 g1 rfl) hh1 (by decide) _, o2.set _, o3.step (fun k' hk' => Below.heap_setCell wr ⟨g1, k, none⟩ _ k' ?_), o4.setCell (p := ⟨g1, k, none⟩) hg1 _⟩
                intro e9
                have e9 : k' = g1 := e9
                subst e9
                obtain ⟨cc, hcc⟩ := o3.typed k' hk'
                rw [hh1] at hcc
                injection hcc with hcc
                injection hcc with _ hcc _
                exact absurd hcc (by decide)
              generalize cur1[k]'(by omega) = ov at t1
              clear HC hh1
              go_wp2
              go_roundw
              case measure => show n1 - (k + 1) < n1 - k; omega
              case rel => exact ⟨k + 1, by first | rfl | (simp; done) | (congr 1), hkl, HC'⟩
            · have b6 : decide (((k : Nat) : Int) < ((n1 : Nat) : Int)) = false := decide_eq_false (by omega)
              have x2 : wr.cell? ⟨gT, j * 3 + 2, none⟩ = some (.slice A2 n2 c2) := (blk_cell HC.out.1.1 _).trans HE2.out
              clear x1
              go_wp2
              clear x2
              have HC0 := HC
              clear HC hkl b6 hk
              obtain ⟨wb, rfl⟩ : ∃ wb : World, wb = wr := ⟨_, rfl⟩
              go_loopw [72] (fun v72 W => ∃ k : Nat, v72 = .int .i64 k ∧ k ≤ n2 ∧ Aside0 (OwnC f wo.heap.size gT cap r.length j cur (.slice A1 n1 c1) n1 (.slice A2 n2 c2) n2 wo W)) (fun v72 _ => n2 - (RowKit.intOf v72).toNat)
              case atStart => exact ⟨0, rfl, Nat.zero_le _, HC0⟩
              case round =>
                clear HC0
                obtain ⟨k, rfl, hk, HC⟩ := hrel
                have x2 : wr.cell? ⟨gT, j * 3 + 2, none⟩ = some (.slice A2 n2 c2) := (blk_cell HC.out.1.1 _).trans HE2.out
                by_cases hkl : k < n2
                · have b6 : decide (((k : Nat) : Int) < ((n2 : Nat) : Int)) = true := decide_eq_true (by omega)
                  have q0 : ((0 : Int) ≤ ((k : Nat) : Int)) = True := eq_true (by omega)
                  have q1 : (((k : Nat) : Int) < ((n2 : Nat) : Int)) = True := eq_true (by omega)
                  rcases HC.out.2.2.1.shape with ⟨h8, h9⟩ | ⟨g1, cap1, cur1, ev, hg1, hh1, hc1, hm1, hz1⟩
                  · omega
                  cases ev
                  have t1 : wr.cell? ⟨g1, k, none⟩ = some (cur1[k]'(by omega)) := (blk_cell hh1 k).trans (Array.getElem?_eq_getElem (by omega))
                  have t2 : wr.frozen? ⟨g1, k, none⟩ = false := blk_frozen hh1 k
                  have HC' : Aside0 (OwnC f wo.heap.size gT cap r.length j cur (.slice A1 n1 c1) n1 (.slice (some ⟨g1, 0, none⟩) n2 c2) n2 wo (wr.setCell ⟨g1, k, none⟩ (.int .i64 (-1)))) := by
                    obtain ⟨o1, o2, o3, o4⟩ := HC.out
                    refine ⟨o1.store (o3.2.2 g1 rfl) hh1 (by decide) _, o2.step (fun k' hk' => Below.heap_setCell wr ⟨g1, k, none⟩ _ k' ?_), o3.set _, o4.setCell (p := ⟨g1, k, none⟩) hg1 _⟩
                    intro e9
                    have e9 : k' = g1 := e9
                    subst e9
                    obtain ⟨cc, hcc⟩ := o2.typed k' hk'
                    rw [hh1] at hcc
                    injection hcc with hcc
                    injection hcc with _ hcc _
                    exact absurd hcc (by decide)
                  generalize cur1[k]'(by omega) = ov at t1
                  clear HC hh1
                  go_wp2
                  go_roundw
                  case measure => show n2 - (k + 1) < n2 - k; omega
                  case rel => exact ⟨k + 1, by first | rfl | (simp; done) | (congr 1), hkl, HC'⟩
                · have b6 : decide (((k : Nat) : Int) < ((n2 : Nat) : Int)) = false := decide_eq_false (by omega)
                  have x1 : wr.cell? ⟨gT, j * 3 + 1, none⟩ = some (.slice A1 n1 c1) := (blk_cell HC.out.1.1 _).trans HE1.out
                  have hcs : j * 3 + 2 < cur.size := by have h8 := HC.out.1.2.2.1; have h9 := HC.out.1.2.2.2.1; omega
                  have hBg := HC.out.1.2.1
                  obtain ⟨xs1, hx1⟩ := HC.out.2.1.2.1
                  have HX1 := Aside0.mk hx1
                  clear hx1 x2
                  go_wp2_with (first | ((with_reducible refine gate_builtin (b := .append) (xs := #[.tmp 89, .tmp 90]) rfl ?_); at_builtin; refine print_append_cells (w0 := wo) wo.heap.size rfl (.tmp 89) (.tmp 90) 22 9 (.string ⟨#[]⟩) 1 16 rfl Try.underlying22 info9 rfl (by decide) (by decide) (.slice A1 n1 c1) n1 xs1 [.string ⟨#[63]⟩] rfl ?ax rfl ?a1 ?aO ?aB ?aS ?aL ?_; (case ax => first | rfl | (simp; done) | (simp [go_sem]; done)); (case a1 => intro u hu; rw [List.mem_singleton.1 hu]; rfl); (case aO => exact HX1.out); (case aB => exact HC.out.2.2.2); (case aS => exact HC.out.2.2.2.size); (case aL => omega); intro v5 w6 ho5 hb5 hg5 hat5; obtain ⟨g5, cap5, rfl, u1, u2, HO7⟩ := own_app (.inl rfl) (by omega) HC.out.1 HC.out.2.1 HE1.out ho5 hb5 hg5; have HR7 := Aside0.mk (own_keep (o := j * 3 + 1) (u := .slice (some ⟨g5, 0, none⟩) (n1 + 1) cap5) HC.out.1 HC.out.2.1 HC.out.2.2.1 (by decide) (by decide) hg5); have HE7 : Aside0 ((cur.setIfInBounds (j * 3 + 1) (.slice (some ⟨g5, 0, none⟩) (n1 + 1) cap5))[j * 3 + 2]? = some (.slice A2 n2 c2)) := ⟨by rw [Array.getElem?_setIfInBounds_ne (by omega)]; exact HE2.out⟩; have u3 := (blk_cell HO7.out.1.1 (j * 3 + 2)).trans HE7.out; obtain ⟨xs2, hx2⟩ := HR7.out.2.1; have HX2 := Aside0.mk hx2; clear ho5 hb5 hg5 hat5 hx2) | ((with_reducible refine gate_builtin (b := .append) (xs := #[.tmp 100, .tmp 101]) rfl ?_); at_builtin; refine print_append_cells (w0 := wo) wo.heap.size rfl (.tmp 100) (.tmp 101) 41 3 (.int .i64 0) 1 8 rfl Try.underlying41 info3 rfl (by decide) (by decide) (.slice A2 n2 c2) n2 xs2 [.int .i64 (-1)] rfl ?bx rfl ?b1 ?bO ?bB ?bS ?bL ?_; (case bx => first | rfl | (simp; done) | (simp [go_sem]; done)); (case b1 => intro u hu; rw [List.mem_singleton.1 hu]; rfl); (case bO => exact HX2.out); (case bB => exact HO7.out.2); (case bS => exact HO7.out.2.size); (case bL => omega); intro v8 w8 ho8 hb8 hg8 hat8; obtain ⟨g8, cap8, rfl, u4, u5, HO8⟩ := own_app (.inr rfl) (by omega) HO7.out.1 HR7.out HE7.out ho8 hb8 hg8; clear ho8 hb8 hg8 hat8 u1 u2 u3))
                  go_roundw
                  case measure => show r.length - (j + 1) < r.length - j; omega
                  case rel => exact ⟨j + 1, _, by first | rfl | (simp; done) | (congr 1), hjl, HO8⟩
        · have b5 : decide (((j : Nat) : Int) < ((r.length : Nat) : Int)) = false := decide_eq_false (by omega)
          go_wp2
          go_roundw
          case measure => show 2 - (i + 1) < 2 - i; omega
          case rel => exact ⟨i + 1, by first | rfl | (simp; done) | (congr 1), by omega, ⟨below_go HI.out.2 HB.out⟩⟩
    · have b4 : decide (((i : Nat) : Int) < 2) = false := decide_eq_false (by omega)
      have HK := Aside0.mk (asks_nodes (o := 0) h3 h4 HTr.out hlen y0 y1 HCr.out hc3 false false ⟨#[]⟩ ⟨#[]⟩ 0 0)
      clear y0 y1
      go_wp2_with fail
      refine HK.out.mono ?_
      rintro e w9 ⟨rfl, hB9⟩
      have HB9 := Aside0.mk (below_go hB9 (below_go HB.out HB2.out))
      clear hB9
      go_wp2
      go_ret
      exact ⟨rfl, HB9.out⟩
end Go.Proofs.Ytjabcdfbncglnaa
