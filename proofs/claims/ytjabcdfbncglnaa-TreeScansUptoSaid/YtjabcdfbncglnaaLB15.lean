/- WHAT IS PROVED: the document's Form answers true, with the depth, for the nodes of a well-formed tree and a list with the tree's keys. how many keys and nodes a well-formed tree of a depth has. what Nodes of a tree answers has the form; asks at Nodes answers true. asks at Nodes answers true. TreeForms answers true at every order and script. -/
import Derived.Test.YtjabcdfbncglnaaLB14
import Derived.Test.YtjabcdfbncglnaaLB13
import Derived.Deep.RegionHeld3
import Derived.Outline
import Derived.Test.YtjabcdfbncglnaaLB12
namespace Go.Proofs.Ytjabcdfbncglnaa
open Go.RowKit Go.Proofs.YtjabcdfbncglnaaW.PrintWords Go.Proofs.YtjabcdfbncglnaaW.PrintLast Go.Proofs.YtjabcdfbncglnaaW.PrintMore
open PTreeRanks (S59 k59 z59 S43 k43 z43)
set_option linter.unusedVariables false
set_option linter.unusedSimpArgs false

set_option maxHeartbeats 4000000 in
set_option maxRecDepth 100000 in
theorem form_calls {order : Nat} (h3 : 3 ≤ order) (h4 : order ≤ 64) {t : AT} (hW : WFA order t) {g : Nat} {r : List S43} (hr : bfs g [t] 0 [] = some r) (hn : r.length ≤ 1099511627776) (hd : t.1 + 1 ≤ 1099511627776)
    {An Al : Option Addr} {cn cl : Nat} {l : List S59} {W : World} (hC : Kd.C k43 W An r.length r) (hcn : r.length ≤ cn) (hll : keysOf l = keysOf (listA t)) (hls : l.length ≤ 1099511627776) (hCl : Kd.C k59 W Al l.length l) (hcl : l.length ≤ cl) :
    Calls Try.prog 18 #[.slice An r.length cn, .int .i64 (order : Nat), .slice Al l.length cl] W fun e W' => e = .returned (.tuple #[.bool true, .int .i64 ((1 + t.1 : Nat))]) ∧ Below W.heap.size W W' := by
  have hpos : 0 < r.length := by have := bfs_length hr rfl (Nat.zero_le _); exact this
  obtain ⟨ko, ho⟩ := ordered_bfs hr rfl (Nat.zero_le _) hn
  have hsz : size t.1 t.2 = l.length := by
    have h := congrArg List.length hll
    rw [keysOf_length, keysOf_length] at h
    rw [h]
    exact size_eq t.1 t.2
  have HO := Aside0.mk (PTreeRanks.keystoneref05_ordered.calls ko An cn r true W hC hcn ho)
  have b0 : ((((r.length : Nat) : Int)) == 0) = false := by
    apply Bool.eq_false_iff.2
    intro e
    have e : ((r.length : Nat) : Int) = 0 := by simpa using e
    omega
  have b0n : (r.length == 0) = false := by
    apply Bool.eq_false_iff.2
    intro e
    have e : r.length = 0 := by simpa using e
    omega
  have b0d : decide (((r.length : Nat) : Int) = 0) = false := decide_eq_false (by omega)
  have hne : ¬ r = [] := by intro e; rw [e] at hpos; exact absurd hpos (by decide)
  have hu93 := Try.underlying93
  have hu96 := Try.underlying96
  go_enter Try.func18, Try.ntmps18
  go_wp2_with fail
  refine HO.out.mono ?_
  rintro e w1 ⟨rfl, ⟨n1, rfl⟩⟩
  have hB1 : Below W.heap.size W (W.drewN n1) := pw_below_drewN (Below.refl _ _) n1
  have HC1 := Aside0.mk (Kd.C_below hC hB1)
  have HL1 := Aside0.mk (Kd.C_below hCl hB1)
  have HB1 := Aside0.mk hB1
  generalize W.drewN n1 = W1 at *
  clear HO hB1 hC hCl
  have HF1 : Aside0 (FormI W1 W1.heap.size An r.length cn order 0 (.slice none 0 0) [] (W1.alloc (.cells #[.slice An r.length cn, .int .i64 (order : Nat), .int .i64 0, .slice none 0 0, .int .i64 0, .bool true] 93))) :=
    ⟨heap_alloc_new W1 _, Kd.R_nil _ _ _ _ _, below_mk (Below.refl _ _) _⟩
  have HN : Aside0 (Calls Try.prog 38 #[.pointer (some ⟨W1.heap.size, 0, none⟩), .int .i64 0, .int .i64 1, .agg #[.string ⟨#[]⟩, .string ⟨#[]⟩, .bool false, .bool false]] (W1.alloc (.cells #[.slice An r.length cn, .int .i64 (order : Nat), .int .i64 0, .slice none 0 0, .int .i64 0, .bool true] 93)) fun e W' =>
      e = .returned (.tuple #[]) ∧ Keep9 W1.heap.size (W1.alloc (.cells #[.slice An r.length cn, .int .i64 (order : Nat), .int .i64 0, .slice none 0 0, .int .i64 0, .bool true] 93)) W' ∧ ∃ kv', FormI W1 W1.heap.size An r.length cn order (1 + t.1) kv' ([] ++ keysOf (toList t.1 t.2)) W') := Aside0.mk (node_ok h3 h4 HC1.out hcn (Nat.le_refl _) t.1 t.2 0 1 none none 0 (.slice none 0 0) [] _ (bfs_laid hr) (by
    have h := hW
    unfold WFA at h
    rw [if_pos rfl]
    exact h) HF1.out (.inl rfl) (by omega) (by omega) (by rw [hsz]; simp; omega))
  go_wp2_with fail
  refine HN.out.mono ?_
  rintro e w2 ⟨rfl, hK2, kv2, hF2⟩
  have hkl : ([] ++ keysOf (toList t.1 t.2)).length = l.length := by
    rw [List.nil_append, keysOf_length, ← size_eq, hsz]
  obtain ⟨Ak, ck, rfl, hck, hCk⟩ := Kd.R_reads hF2.2.1
  have f5 : w2.cell? ⟨W1.heap.size, 5, none⟩ = some (.bool true) := (blk_cell hF2.1 5).trans rfl
  have f3 : w2.cell? ⟨W1.heap.size, 3, none⟩ = some (.slice Ak ([] ++ keysOf (toList t.1 t.2)).length ck) := (blk_cell hF2.1 3).trans rfl
  have f2 : w2.cell? ⟨W1.heap.size, 2, none⟩ = some (.int .i64 ((1 + t.1 : Nat))) := (blk_cell hF2.1 2).trans rfl
  have HCK : Aside0 (Kd.C Kd.string w2 Ak l.length (keysOf l)) := ⟨by
    rw [hkl] at hCk
    rw [hll]
    exact hCk⟩
  have HCL := Aside0.mk (Kd.C_below HL1.out hF2.2.2)
  have HB2 : Aside0 (Below W.heap.size W w2) := ⟨below_go hF2.2.2 HB1.out⟩
  rw [hkl] at f3
  clear HN HF1 hK2 hF2 hCk HC1 HL1 HB1
  go_wp2
  go_loopw [9] (fun v9 W' => ∃ j : Nat, v9 = .int .i64 j ∧ j ≤ l.length ∧ Aside0 (Drawn0 w2 W')) (fun v9 _ => l.length - (RowKit.intOf v9).toNat)
  case atStart => exact ⟨0, rfl, Nat.zero_le _, ⟨Drawn0.refl _⟩⟩
  case round =>
    obtain ⟨j, rfl, hj, HD⟩ := hrel
    obtain ⟨⟨nd, rfl⟩⟩ := HD
    by_cases hlt : j < l.length
    · have b1 : decide (((j : Nat) : Int) < ((l.length : Nat) : Int)) = true := decide_eq_true (by omega)
      obtain ⟨ad, rfl, g0, g1⟩ := PTreeRanks.at_T59 HCL.out j (by omega) (by omega)
      rw [rd_eq l j hlt, Int.toNat_natCast] at g0
      have hjk : j < (keysOf l).length := by rw [keysOf_length]; exact hlt
      obtain ⟨ad1, rfl, hk1⟩ := Kd.at_string HCK.out j (by omega) (by omega)
      rw [rdOf_eq _ _ hjk, Int.toNat_natCast] at hk1
      have e : (keysOf l)[j] = l[j].f0 := List.getElem_map (l := l) S59.f0
      rw [e] at hk1
      have p0 : ((0 : Int) ≤ ((j : Nat) : Int)) = True := eq_true (by omega)
      have p1 : (((j : Nat) : Int) < ((l.length : Nat) : Int)) = True := eq_true (by omega)
      generalize l[j].f0 = k at *
      clear g1 e hjk
      go_wp2
      go_quiet (fail)
      go_wp2
      go_roundw
      case measure => show l.length - (j + 1) < l.length - j; omega
      case rel => exact ⟨j + 1, by first | rfl | (simp; done) | (congr 1), hlt, ⟨⟨_, rfl⟩⟩⟩
    · have b1 : decide (((j : Nat) : Int) < ((l.length : Nat) : Int)) = false := decide_eq_false (by omega)
      go_wp2
      go_quiet (fail)
      go_wp2
      go_ret2
      exact ⟨rfl, pw_below_drewN (pw_below_drewN HB2.out _) _⟩
end Go.Proofs.Ytjabcdfbncglnaa
namespace Go.Proofs.Ytjabcdfbncglnaa
open Go.RowKit Go.Proofs.YtjabcdfbncglnaaW.PrintWords Go.Proofs.YtjabcdfbncglnaaW.PrintLast Go.Proofs.YtjabcdfbncglnaaW.PrintMore
open PTreeRanks (S59 k59 z59 S43 k43 z43)
set_option linter.unusedVariables false
set_option linter.unusedSimpArgs false

theorem sum_ge {α : Type} (f : α → Nat) (m : Nat) : ∀ (l : List α), (∀ x ∈ l, m ≤ f x) → l.length * m ≤ (l.map f).sum
  | [], _ => by simp
  | x :: l, h => by
    have ih := sum_ge f m l (fun y hy => h y (List.mem_cons_of_mem _ hy))
    have := h x List.mem_cons_self
    rw [List.map_cons, List.sum_cons, List.length_cons, Nat.add_mul]
    omega

/-- The least number of keys of a node of a depth that is no root. -/
def leastN (order : Nat) : Nat → Nat
  | 0 => order / 2
  | d + 1 => leastN order d * ((order + 1) / 2)

theorem WF_least {order : Nat} : ∀ (d m : Nat) (lo hi : Option ByteArray) (t : T d), WF order d m lo hi t → (m = minOf order d → leastN order d ≤ size d t) ∧ (∀ d', d = d' + 1 → m * leastN order d' ≤ size d t)
  | 0, m, lo, hi, l, h => by
    obtain ⟨l, rfl⟩ : ∃ l' : List S59, l' = l := ⟨l, rfl⟩
    obtain ⟨w1, w2, w3, w4⟩ := WF_zero.1 h
    refine ⟨fun e => ?_, fun d' e => by cases e⟩
    subst e
    exact w4
  | d + 1, m, lo, hi, t, h => by
    obtain ⟨ks, cs, rfl⟩ : ∃ (ks : List ByteArray) (cs : List (T d)), ((ks, cs) : List ByteArray × List (T d)) = t := ⟨t.1, t.2, rfl⟩
    obtain ⟨w1, w2, w3⟩ := WF_succ.1 h
    have hs : cs.length * leastN order d ≤ (cs.map (size d)).sum := sum_ge (size d) _ cs (fun c hc => by
      obtain ⟨l, u, hP⟩ := WK_mem w1 c hc
      exact (WF_least d _ l u c hP).1 rfl)
    have hm : m * leastN order d ≤ (cs.map (size d)).sum := Nat.le_trans (Nat.mul_le_mul_right _ w3) hs
    refine ⟨fun e => ?_, fun d' e => ?_⟩
    · subst e
      show leastN order d * ((order + 1) / 2) ≤ _
      rw [Nat.mul_comm]
      exact hm
    · cases e
      exact hm

theorem nodes_le {order : Nat} (ho : 3 ≤ order) : ∀ (d m : Nat) (lo hi : Option ByteArray) (t : T d), WF order d m lo hi t → nodesN d t ≤ 2 * size d t + 1 ∧ (0 < m → nodesN d t + 1 ≤ 2 * size d t ∨ (0 < d ∧ m < 2))
  | 0, m, lo, hi, l, h => by
    obtain ⟨l, rfl⟩ : ∃ l' : List S59, l' = l := ⟨l, rfl⟩
    obtain ⟨w1, w2, w3, w4⟩ := WF_zero.1 h
    show 1 ≤ 2 * l.length + 1 ∧ (0 < m → 1 + 1 ≤ 2 * l.length ∨ _)
    exact ⟨by omega, fun h => .inl (by omega)⟩
  | d + 1, m, lo, hi, t, h => by
    obtain ⟨ks, cs, rfl⟩ : ∃ (ks : List ByteArray) (cs : List (T d)), ((ks, cs) : List ByteArray × List (T d)) = t := ⟨t.1, t.2, rfl⟩
    obtain ⟨w1, w2, w3⟩ := WF_succ.1 h
    have hmin : 1 ≤ minOf order d ∧ (0 < d → 2 ≤ minOf order d) := by
      cases d with
      | zero => exact ⟨by show 1 ≤ order / 2; omega, fun h => absurd h (Nat.lt_irrefl 0)⟩
      | succ d => exact ⟨by show 1 ≤ (order + 1) / 2; omega, fun _ => by show 2 ≤ (order + 1) / 2; omega⟩
    have hs : ∀ l : List (T d), (∀ c ∈ l, c ∈ cs) → (l.map (nodesN d)).sum + l.length ≤ 2 * (l.map (size d)).sum := by
      intro l
      induction l with
      | nil => intro _; simp
      | cons c l ih =>
        intro hl
        have h1 := ih (fun y hy => hl y (List.mem_cons_of_mem _ hy))
        obtain ⟨lo', hi', hP⟩ := WK_mem w1 c (hl c List.mem_cons_self)
        have h2 := (nodes_le ho d _ lo' hi' c hP).2 hmin.1
        have h3 : nodesN d c + 1 ≤ 2 * size d c := by
          rcases h2 with h2 | ⟨h2, h4⟩
          · exact h2
          · have := hmin.2 h2; omega
        rw [List.map_cons, List.sum_cons, List.map_cons, List.sum_cons, List.length_cons]
        omega
    have h1 := hs cs (fun c hc => hc)
    have h2 := WK_length w1
    show 1 + (cs.map (nodesN d)).sum ≤ 2 * (cs.map (size d)).sum + 1 ∧ (0 < m → 1 + (cs.map (nodesN d)).sum + 1 ≤ 2 * (cs.map (size d)).sum ∨ _)
    refine ⟨by omega, fun hm => ?_⟩
    by_cases h3 : m < 2
    · exact .inr ⟨Nat.succ_pos _, h3⟩
    · exact .inl (by omega)

theorem leastN_ge {order : Nat} (ho : 3 ≤ order) : ∀ d, d + 1 ≤ leastN order d
  | 0 => by show 1 ≤ order / 2; omega
  | d + 1 => by
    have ih := leastN_ge ho d
    show d + 1 + 1 ≤ leastN order d * ((order + 1) / 2)
    have h2 : 2 ≤ (order + 1) / 2 := by omega
    have := Nat.mul_le_mul (Nat.le_refl (leastN order d)) h2
    omega

theorem WFA_depth {order : Nat} (ho : 3 ≤ order) {t : AT} (h : WFA order t) : t.1 ≤ sizeA t := by
  obtain ⟨d, t⟩ := t
  cases d with
  | zero => exact Nat.zero_le _
  | succ d =>
    have h1 := (WF_least _ _ _ _ _ h).2 d rfl
    have h2 := leastN_ge ho d
    show d + 1 ≤ size (d + 1) t
    have e : (if (⟨d + 1, t⟩ : AT).1 = 0 then 0 else 2) = 2 := if_neg (Nat.succ_ne_zero d)
    rw [e] at h1
    have h1 : 2 * leastN order d ≤ size (d + 1) t := h1
    omega
theorem WFA_nodes {order : Nat} (ho : 3 ≤ order) {t : AT} (h : WFA order t) : nodesA t ≤ 2 * sizeA t + 1 := (nodes_le ho _ _ _ _ _ h).1

open PTreeRanks in
theorem half_f (n : Nat) (h : n ≤ 1000) : keystoneref05_half.f (n : Nat) = some (((n + 1) / 2 : Nat) : Int) := by
  unfold keystoneref05_half.f
  rw [wrap_small ((n : Int) + 1) (by omega) (by omega)]
  have e : Int.tdiv ((n : Int) + 1) 2 = (((n + 1) / 2 : Nat) : Int) := by
    rw [Int.tdiv_eq_ediv_of_nonneg (by omega)]
    omega
  rw [e, wrap_small _ (by omega) (by omega)]

theorem leastN_mono {order : Nat} (ho : 3 ≤ order) (a : Nat) : ∀ b, leastN order a ≤ leastN order (a + b)
  | 0 => Nat.le_refl _
  | b + 1 => by
    have ih := leastN_mono ho a b
    show _ ≤ leastN order (a + b) * ((order + 1) / 2)
    have h2 : 1 ≤ (order + 1) / 2 := by omega
    have := Nat.mul_le_mul (Nat.le_refl (leastN order (a + b))) h2
    omega

theorem least_mul (order j : Nat) : ((2 * leastN order j : Nat) : Int) * (((order + 1) / 2 : Nat) : Int) = ((2 * leastN order (j + 1) : Nat) : Int) := by
  rw [← Int.natCast_mul, Nat.mul_assoc]
  rfl
open PTreeRanks in
theorem flat_l {order n d : Nat} (h3 : 3 ≤ order) (h4 : order ≤ 64) (hn : n ≤ 1099511627776) (hl : 2 * leastN order d ≤ n) (hd : d ≤ n) (m : Nat) : ∀ (j : Nat), j + m = d →
    keystoneref05_Flat.l0 (m + 1) (order : Nat) ((1 + (d + 1) : Nat) : Int) (n : Nat) ((2 * leastN order j : Nat) : Int) ((2 + j : Nat) : Int) = some true := by
  induction m with
  | zero =>
    intro j h
    obtain rfl : j = d := by omega
    simp only [keystoneref05_Flat.l0]
    rw [if_neg (by omega)]
    congr 1
    exact decide_eq_true (by omega)
  | succ m ih =>
    intro j h
    have ih := ih (j + 1) (by omega)
    have hm := leastN_mono h3 (j + 1) m
    rw [show j + 1 + m = d by omega] at hm
    have e := least_mul order j
    have e1 : wrap64 ((2 * leastN order (j + 1) : Nat) : Int) = ((2 * leastN order (j + 1) : Nat) : Int) := wrap_small _ (by omega) (by omega)
    have e2 : wrap64 (((2 + j : Nat) : Int) + 1) = ((2 + (j + 1) : Nat) : Int) := by rw [wrap_small _ (by omega) (by omega)]; omega
    have h5 : ¬ ((2 * leastN order (j + 1) : Nat) : Int) > ((n : Nat) : Int) := by omega
    have h6 : ((2 + j : Nat) : Int) < ((1 + (d + 1) : Nat) : Int) := by omega
    have hh := half_f order (by omega)
    generalize ((2 * leastN order (j + 1) : Nat) : Int) = y at *
    generalize ((2 * leastN order j : Nat) : Int) = z at *
    rw [keystoneref05_Flat.l0, if_pos h6, hh, Option.bind_some, e, e1, if_neg h5, e2]
    exact ih

open PTreeRanks in
/-- The document's Flat is true of a well-formed tree. -/
theorem flat_ok {order : Nat} (h3 : 3 ≤ order) (h4 : order ≤ 64) {t : AT} (h : WFA order t) (hn : sizeA t ≤ 1099511627776) : ∃ k, keystoneref05_Flat.f k (order : Nat) ((1 + t.1 : Nat) : Int) ((sizeA t : Nat) : Int) = some true := by
  have hd := WFA_depth h3 h
  obtain ⟨d, t⟩ := t
  cases d with
  | zero =>
    refine ⟨0, ?_⟩
    unfold keystoneref05_Flat.f
    exact if_pos (Int.le_refl _)
  | succ d =>
    have h1 := (WF_least _ _ _ _ _ h).2 d rfl
    have e : (if (⟨d + 1, t⟩ : AT).1 = 0 then 0 else 2) = 2 := if_neg (Nat.succ_ne_zero d)
    rw [e] at h1
    have h1 : 2 * leastN order d ≤ sizeA ⟨d + 1, t⟩ := h1
    have hd : d + 1 ≤ sizeA ⟨d + 1, t⟩ := hd
    generalize sizeA ⟨d + 1, t⟩ = n at *
    have eh : wrap64 (((order : Nat) : Int) - 1) = ((order - 1 : Nat) : Int) := by rw [wrap_small _ (by omega) (by omega)]; omega
    have eo : (order - 1 + 1) / 2 = order / 2 := by omega
    refine ⟨d + 1, ?_⟩
    unfold keystoneref05_Flat.f
    show (if ((1 + (d + 1) : Nat) : Int) ≤ 1 then _ else _) = _
    rw [if_neg (by omega), eh, half_f (order - 1) (by omega), eo]
    have e2 : (2 : Int) * ((order / 2 : Nat) : Int) = ((2 * leastN order 0 : Nat) : Int) := by
      show _ = ((2 * (order / 2) : Nat) : Int)
      omega
    have e3 : wrap64 ((2 * leastN order 0 : Nat) : Int) = ((2 * leastN order 0 : Nat) : Int) := wrap_small _ (by omega) (by show ((2 * (order / 2) : Nat) : Int) < _; omega)
    simp only [Option.bind_some]
    rw [e2, e3]
    by_cases h0 : d = 0
    · subst h0
      rw [if_pos (by omega)]
      congr 1
      exact decide_eq_true (by omega)
    · rw [if_neg (by omega)]
      have := flat_l h3 h4 hn h1 (by omega) d 0 (by omega)
      exact this
end Go.Proofs.Ytjabcdfbncglnaa
namespace Go.Proofs.Ytjabcdfbncglnaa
open Go.RowKit Go.Proofs.YtjabcdfbncglnaaW.PrintWords Go.Proofs.YtjabcdfbncglnaaW.PrintLast Go.Proofs.YtjabcdfbncglnaaW.PrintMore
open PTreeRanks (S59 k59 z59 S43 k43 z43)
set_option linter.unusedVariables false
set_option linter.unusedSimpArgs false

theorem nodeOf_lens {t : AT} (h : GoodA t) (n : Nat) : (nodeOf t n).f1.length ≤ 900 ∧ (nodeOf t n).f2.length ≤ 901 := by
  obtain ⟨d, t⟩ := t
  cases d with
  | zero =>
    have h1 : List.length (α := S59) t ≤ 900 := h.1.2
    exact ⟨by have e : (List.map S59.f0 t).length = List.length (α := S59) t := List.length_map _; exact e ▸ h1, Nat.zero_le _⟩
  | succ d =>
    have h1 : t.2.length = t.1.length + 1 := h.1.2.1
    have h2 : t.1.length ≤ 900 := h.1.2.2.1
    refine ⟨h2, ?_⟩
    show ((List.range t.2.length).map fun i => ((n + i : Nat) : Int)).length ≤ 901
    rw [List.length_map, List.length_range]
    omega
theorem bfs_lens : ∀ {g : Nat} {q : List AT} {i : Nat} {out r : List S43}, bfs g q i out = some r → (∀ t ∈ q, GoodA t) → (∀ x ∈ out, x.f1.length ≤ 900 ∧ x.f2.length ≤ 901) → ∀ x ∈ r, x.f1.length ≤ 900 ∧ x.f2.length ≤ 901
  | 0, q, i, out, r, h, _, _ => by cases h
  | g + 1, q, i, out, r, h, h1, h2 => by
    unfold bfs at h
    cases hq : q[i]? with
    | none =>
      rw [hq] at h
      injection h with h
      subst h
      exact h2
    | some t =>
      rw [hq] at h
      have hg := h1 t (List.mem_of_getElem? hq)
      refine bfs_lens h (fun t' ht => ?_) (fun x hx => ?_)
      · rcases List.mem_append.1 ht with ht | ht
        · exact h1 t' ht
        · exact GoodA_kids hg t' ht
      · rcases List.mem_append.1 hx with hx | hx
        · exact h2 x hx
        · rw [List.mem_singleton.1 hx]
          exact nodeOf_lens hg _

/-- What Nodes of a tree answers. -/
def NodesPost (order : Nat) (l : List S59) (w : World) (e : Ending) (w' : World) : Prop :=
  ∃ (v : Value) (r : List S43) (t : AT) (g : Nat), e = .returned v ∧ Kd.S k43 43 w' w.heap.size (fun _ => True) v r ∧ Below w.heap.size w w' ∧ bfs g [t] 0 [] = some r ∧ WFA order t ∧ listA t = l ∧ r.length ≤ 2 * l.length + 1 ∧ ∀ x ∈ r, x.f1.length ≤ 900 ∧ x.f2.length ≤ 901

theorem TL_nodes {order base bt : Nat} {l : List S59} {w : World} (h : TL order l base bt w) (hl : l.length ≤ 1073741824) : Calls Try.prog 17 #[.pointer (some ⟨bt, 0, none⟩)] w (NodesPost order l w) := by
  obtain ⟨h1, h2, h3, t, rfl, h4, hkl, v, h5, h6⟩ := h
  have hS := Shape_of_WF h1 h2 h4
  have hn := WFA_nodes h1 h4
  rw [sizeA_eq] at hn
  obtain ⟨r, hr, hrl⟩ := bfs_ok (nodesA t + 1) [t] 0 [] (Nat.zero_le _) (by simp)
  have hrl : r.length = nodesA t := by rw [hrl]; simp
  refine (nodes_calls bt t v w ((blk_cell h5 1).trans rfl) ((NK t.1).K_of_M h6) ⟨hS, hkl⟩ _ r hr (by omega)).mono ?_
  rintro e w' ⟨v', rfl, hR, hB⟩
  exact ⟨v', r, t, _, rfl, hR, hB, hr, h4, rfl, by omega, bfs_lens hr (fun t' ht => by rw [List.mem_singleton.1 ht]; exact ⟨hS, hkl⟩) (fun x hx => by cases hx)⟩

/-- The result of Form at the nodes of a tree. -/
theorem Form_of_nodes {order : Nat} (h3 : 3 ≤ order) (h4 : order ≤ 64) {l : List S59} {t : AT} {g : Nat} {r : List S43} (hr : bfs g [t] 0 [] = some r) (hW : WFA order t) (hl : listA t = l) (hrl : r.length ≤ 2 * l.length + 1) (hn : l.length ≤ 1073741824)
    {An Al : Option Addr} {cn cl : Nat} {W : World} (hC : Kd.C k43 W An r.length r) (hcn : r.length ≤ cn) (hCl : Kd.C k59 W Al l.length l) (hcl : l.length ≤ cl) :
    Calls Try.prog 18 #[.slice An r.length cn, .int .i64 (order : Nat), .slice Al l.length cl] W fun e W' => e = .returned (.tuple #[.bool true, .int .i64 ((1 + t.1 : Nat))]) ∧ Below W.heap.size W W' := by
  have hd := WFA_depth h3 hW
  rw [sizeA_eq, hl] at hd
  exact form_calls h3 h4 hW hr (by omega) (by omega) hC hcn (by rw [hl]) (by omega) hCl hcl
end Go.Proofs.Ytjabcdfbncglnaa
namespace Go.Proofs.Ytjabcdfbncglnaa
open Go.RowKit Go.Proofs.YtjabcdfbncglnaaW.PrintWords Go.Proofs.YtjabcdfbncglnaaW.PrintLast Go.Proofs.YtjabcdfbncglnaaW.PrintMore
open PTreeRanks (S59 k59 z59 S43 k43 z43)
set_option linter.unusedVariables false
set_option linter.unusedSimpArgs false

set_option maxHeartbeats 8000000 in
set_option maxRecDepth 100000 in
theorem asks_nodes {order base bt s o cl : Nat} {l : List S59} {Al : Option Addr} {w : World} (h3 : 3 ≤ order) (h4 : order ≤ 64) (hT : TL order l base bt w) (hl : l.length ≤ 1073741824) (x0 : w.cell? ⟨s, o, none⟩ = some (.pointer (some ⟨bt, 0, none⟩)))
    (x1 : w.cell? ⟨s, o + 1, none⟩ = some (.slice Al l.length cl)) (hCl : Kd.C k59 w Al l.length l) (hcl : l.length ≤ cl) (other beyond : Bool) (k k2 : ByteArray) (v i : Int) :
    Calls Try.prog 19 #[.pointer (some ⟨s, o, none⟩), .agg #[.int .i64 8, .bool other, .string k, .string k2, .int .i64 v, .int .i64 i, .bool beyond], .int .i64 (order : Nat)] w fun e w' => e = .returned (.bool true) ∧ Below w.heap.size w w' := by
  have hu46 := Try.underlying46
  have hu27 := Try.underlying27
  have HSK : Aside0 (∀ W', Below w.heap.size w W' → (W'.cell? ⟨s, o, none⟩ = some (.pointer (some ⟨bt, 0, none⟩)) ∧ W'.cell? ⟨s, o + 1, none⟩ = some (.slice Al l.length cl)) ∧ Below w.heap.size w W') := ⟨fun W' hb => ⟨⟨pw_cell_below hb x0, pw_cell_below hb x1⟩, hb⟩⟩
  have HT := Aside0.mk hT
  have HCL := Aside0.mk hCl
  clear x0 x1 hT hCl
  go_enter Try.func19, Try.ntmps19
  go_wp2
  have hB1 := Aside0.mk (below_mk (Below.refl w.heap.size w) (.cells #[.int .i64 8, .bool other, .string k, .string k2, .int .i64 v, .int .i64 i, .bool beyond] 46))
  generalize w.alloc (.cells #[.int .i64 8, .bool other, .string k, .string k2, .int .i64 v, .int .i64 i, .bool beyond] 46) = w1 at *
  refine wp_region_held_drew (S := fun W' => (W'.cell? ⟨s, o, none⟩ = some (.pointer (some ⟨bt, 0, none⟩)) ∧ W'.cell? ⟨s, o + 1, none⟩ = some (.slice Al l.length cl)) ∧ Below w.heap.size w W') (by kernel_rfl) (HSK.out _ (hB1.out.trans (below_drew (Below.refl _ _)))) (fun hHeld => ?_)
  refine wpAnyH_take (i := 0) (v := ?v0) rfl (by kernel_rfl) (by kernel_rfl) (by kernel_rfl) (fun _ _ _ h => h) (Or.inl ⟨by rfl, fun wq hSw => ?y0⟩) (by assumption) ?r0
  case y0 => ((try dsimp only at hSw); go_simp; try with_reducible rfl)
  try simp only [Act.put, List.setIfInBounds_toArray, List.set_cons_zero, List.set_cons_succ, List.getElem_toArray, List.getElem_cons_zero, List.getElem_cons_succ]
  refine wpAnyH_take (i := 1) (v := ?v1) rfl (by kernel_rfl) (by kernel_rfl) (by kernel_rfl) (fun _ _ _ h => h) (Or.inl ⟨by rfl, fun wq hSw => ?y1⟩) (by assumption) ?r1
  case y1 => ((try dsimp only at hSw); go_simp; try with_reducible rfl)
  try simp only [Act.put, List.setIfInBounds_toArray, List.set_cons_zero, List.set_cons_succ, List.getElem_toArray, List.getElem_cons_zero, List.getElem_cons_succ]
  refine wpAnyH_take (i := 2) (v := ?v2) rfl (by kernel_rfl) (by kernel_rfl) (by kernel_rfl) (fun _ _ _ h => h) (Or.inl ⟨by rfl, fun wq hSw => ?y2⟩) (by assumption) ?r2
  case y2 => ((try dsimp only at hSw); go_simp; try with_reducible rfl)
  try simp only [Act.put, List.setIfInBounds_toArray, List.set_cons_zero, List.set_cons_succ, List.getElem_toArray, List.getElem_cons_zero, List.getElem_cons_succ]
  refine wpAnyH_take (i := 3) (v := ?v3) rfl (by kernel_rfl) (by kernel_rfl) (by kernel_rfl) (fun _ _ _ h => h) (Or.inl ⟨by rfl, fun wq hSw => ?y3⟩) (by assumption) ?r3
  case y3 => ((try dsimp only at hSw); go_simp; try with_reducible rfl)
  try simp only [Act.put, List.setIfInBounds_toArray, List.set_cons_zero, List.set_cons_succ, List.getElem_toArray, List.getElem_cons_zero, List.getElem_cons_succ]
  refine wpAnyH_take (i := 5) (v := ?v5) rfl (by kernel_rfl) (by kernel_rfl) (by kernel_rfl) (fun _ _ _ h => h) (Or.inl ⟨by rfl, fun wq hSw => ?y5⟩) (by assumption) ?r5
  case y5 => ((try dsimp only at hSw); go_simp; try with_reducible rfl)
  try simp only [Act.put, List.setIfInBounds_toArray, List.set_cons_zero, List.set_cons_succ, List.getElem_toArray, List.getElem_cons_zero, List.getElem_cons_succ]
  refine wpAnyH_take (i := 6) (v := ?v6) rfl (by kernel_rfl) (by kernel_rfl) (by kernel_rfl) (fun _ _ _ h => h) (Or.inl ⟨by rfl, fun wq hSw => ?y6⟩) (by assumption) ?r6
  case y6 => ((try dsimp only at hSw); go_simp; try with_reducible rfl)
  try simp only [Act.put, List.setIfInBounds_toArray, List.set_cons_zero, List.set_cons_succ, List.getElem_toArray, List.getElem_cons_zero, List.getElem_cons_succ]
  refine wpAnyH_take (i := 7) (v := ?v7) rfl (by kernel_rfl) (by kernel_rfl) (by kernel_rfl) (fun _ _ _ h => h) (Or.inl ⟨by rfl, fun wq hSw => ?y7⟩) (by assumption) ?r7
  case y7 => ((try dsimp only at hSw); go_simp; try with_reducible rfl)
  try simp only [Act.put, List.setIfInBounds_toArray, List.set_cons_zero, List.set_cons_succ, List.getElem_toArray, List.getElem_cons_zero, List.getElem_cons_succ]
  refine wpAnyH_take (i := 8) (v := ?v8) rfl (by kernel_rfl) (by kernel_rfl) (by kernel_rfl) (fun _ _ _ h => h) (Or.inl ⟨by rfl, fun wq hSw => ?y8⟩) (by assumption) ?r8
  case y8 => ((try dsimp only at hSw); go_simp; try with_reducible rfl)
  try simp only [Act.put, List.setIfInBounds_toArray, List.set_cons_zero, List.set_cons_succ, List.getElem_toArray, List.getElem_cons_zero, List.getElem_cons_succ]
  refine wpAnyH_take (i := 9) (v := ?v9) rfl (by kernel_rfl) (by kernel_rfl) (by kernel_rfl) (fun _ _ _ h => h) (Or.inl ⟨by rfl, fun wq hSw => ?y9⟩) (by assumption) ?r9
  case y9 => ((try dsimp only at hSw); go_simp; try with_reducible rfl)
  try simp only [Act.put, List.setIfInBounds_toArray, List.set_cons_zero, List.set_cons_succ, List.getElem_toArray, List.getElem_cons_zero, List.getElem_cons_succ]
  refine wpAnyH_ready (rs := [4]) (by kernel_rfl) (by simp) ?_
  refine AllReadyH.cons (by rfl) (fun K hK => ?_) AllReadyH.nil
  have HN := Aside0.mk (TL_nodes (HT.out.below hHeld.2) hl)
  go_wp2_with (go_at_call 17; refine HN.out.mono ?_; rintro e w4 ⟨vn, r, t, g, rfl, hR4, hB4, hbf, hWt, hlt, hrl, _⟩)
  obtain ⟨An, cn, rfl, hcn, hCn⟩ := Kd.S_reads hR4
  have HBF := Aside0.mk hbf
  have HLT := Aside0.mk hlt
  clear hbf hlt
  have hBn := Aside0.mk (hHeld.2.trans (hB4.mono hHeld.2.size))
  refine hK.out _ _ (HSK.out _ hBn.out) (fun hHeld2 => ?_)
  clear hK hHeld K HN hB4 hBn
  try simp only [Act.put, List.setIfInBounds_toArray, List.set_cons_zero, List.set_cons_succ, List.getElem_toArray, List.getElem_cons_zero, List.getElem_cons_succ]
  refine wpAnyH_ready (rs := [10]) (by kernel_rfl) (by simp) ?_
  refine AllReadyH.cons (by rfl) (fun K hK => ?_) AllReadyH.nil
  have HF := Aside0.mk (Form_of_nodes h3 h4 HBF.out hWt HLT.out hrl hl hCn hcn (Kd.C_below HCL.out hHeld2.2) hcl)
  have HH2 := Aside0.mk hHeld2
  have HW4 := Aside0.mk hWt
  clear hCn hR4 hHeld2 hWt hrl hcn HBF
  rw [if_pos (by rfl)]
  go_wp2_with fail
  refine HF.out.mono ?_
  rintro e w5 ⟨rfl, hB5⟩
  have hBn := Aside0.mk (HH2.out.2.trans (hB5.mono HH2.out.2.size))
  refine hK.out _ _ (HSK.out _ hBn.out) (fun hHeld3 => ?_)
  clear hK HH2 K HF hB5
  try simp only [Act.put, List.setIfInBounds_toArray, List.set_cons_zero, List.set_cons_succ, List.getElem_toArray, List.getElem_cons_zero, List.getElem_cons_succ]
  refine wpAnyH_take (i := 11) (v := ?v11) rfl (by kernel_rfl) (by kernel_rfl) (by kernel_rfl) (fun _ _ _ h => h) (Or.inl ⟨by rfl, fun wq hSw => ?y11⟩) (by assumption) ?r11
  case y11 => ((try dsimp only at hSw); go_simp; try with_reducible rfl)
  try simp only [Act.put, List.setIfInBounds_toArray, List.set_cons_zero, List.set_cons_succ, List.getElem_toArray, List.getElem_cons_zero, List.getElem_cons_succ]
  refine wpAnyH_take (i := 12) (v := ?v12) rfl (by kernel_rfl) (by kernel_rfl) (by kernel_rfl) (fun _ _ _ h => h) (Or.inl ⟨by rfl, fun wq hSw => ?y12⟩) (by assumption) ?r12
  case y12 => ((try dsimp only at hSw); go_simp; try with_reducible rfl)
  try simp only [Act.put, List.setIfInBounds_toArray, List.set_cons_zero, List.set_cons_succ, List.getElem_toArray, List.getElem_cons_zero, List.getElem_cons_succ]
  refine wpAnyH_take (i := 13) (v := ?v13) rfl (by kernel_rfl) (by kernel_rfl) (by kernel_rfl) (fun _ _ _ h => h) (Or.inl ⟨by rfl, fun wq hSw => ?y13⟩) (by assumption) ?r13
  case y13 => ((try dsimp only at hSw); go_simp; try with_reducible rfl)
  try simp only [Act.put, List.setIfInBounds_toArray, List.set_cons_zero, List.set_cons_succ, List.getElem_toArray, List.getElem_cons_zero, List.getElem_cons_succ]
  refine wpAnyH_take (i := 14) (v := ?v14) rfl (by kernel_rfl) (by kernel_rfl) (by kernel_rfl) (fun _ _ _ h => h) (Or.inl ⟨by rfl, fun wq hSw => ?y14⟩) (by assumption) ?r14
  case y14 => ((try dsimp only at hSw); go_simp; try with_reducible rfl)
  try simp only [Act.put, List.setIfInBounds_toArray, List.set_cons_zero, List.set_cons_succ, List.getElem_toArray, List.getElem_cons_zero, List.getElem_cons_succ]
  refine wpAnyH_take (i := 15) (v := ?v15) rfl (by kernel_rfl) (by kernel_rfl) (by kernel_rfl) (fun _ _ _ h => h) (Or.inl ⟨by rfl, fun wq hSw => ?y15⟩) (by assumption) ?r15
  case y15 => ((try dsimp only at hSw); go_simp; try with_reducible rfl)
  try simp only [Act.put, List.setIfInBounds_toArray, List.set_cons_zero, List.set_cons_succ, List.getElem_toArray, List.getElem_cons_zero, List.getElem_cons_succ]
  refine wpAnyH_done (by kernel_rfl) ?_ _
  obtain ⟨⟨x0, x1⟩, hB5⟩ := hHeld3
  obtain ⟨kf, hf⟩ := flat_ok h3 h4 HW4.out (by rw [sizeA_eq, HLT.out]; omega)
  rw [sizeA_eq, HLT.out] at hf
  have HFL := Aside0.mk (PTreeRanks.keystoneref05_Flat.calls kf _ _ _ true w5 hf)
  have HB5 := Aside0.mk hB5
  clear hf hB5 hBn HSK
  go_wp2_with fail
  refine HFL.out.mono ?_
  rintro e w6 ⟨rfl, hD6⟩
  go_wp2
  go_ret
  obtain ⟨⟨n6, rfl⟩⟩ := hD6
  exact ⟨rfl, pw_below_drewN HB5.out _⟩
end Go.Proofs.Ytjabcdfbncglnaa
namespace Go.Proofs.Ytjabcdfbncglnaa
open Go.RowKit Go.Proofs.YtjabcdfbncglnaaW.PrintWords Go.Proofs.YtjabcdfbncglnaaW.PrintLast Go.Proofs.YtjabcdfbncglnaaW.PrintMore
open PTreeRanks (S59 k59 z59)
set_option linter.unusedVariables false
set_option linter.unusedSimpArgs false

/-- The nodes' blocks: none of the trees' structs, nor the array. -/
def OkF (n b0 b1 s : Nat) : Nat → Prop := fun k => n ≤ k ∧ k ≠ b0 ∧ k ≠ b1 ∧ k ≠ s

/-- The two trees in their array, the first with these elements. -/
def FormsAt (order n b0 b1 s : Nat) (l : List S59) (W : World) : Prop :=
  b0 < s ∧ b1 < s ∧ n ≤ b0 ∧ ∃ lv, W.heap[s]? = some (.cells #[.pointer (some ⟨b0, 0, none⟩), lv, .pointer (some ⟨b1, 0, none⟩), .slice none 0 0] 49 (0, 0)) ∧ TG order l (OkF n b0 b1 s) b0 W ∧ k59.R 59 W 0 (OkF n b0 b1 s) lv l

def FormsInv (order n b0 b1 s : Nat) (w : World) (i : Nat) (W : World) : Prop :=
  Below w.heap.size w W ∧ ∃ l, l.length ≤ i ∧ FormsAt order n b0 b1 s l W

theorem forms_below {order n b0 b1 s : Nat} {l : List S59} {W W' : World} (h : FormsAt order n b0 b1 s l W) (hb : Below W.heap.size W W') : FormsAt order n b0 b1 s l W' := by
  obtain ⟨f1, f2, f3, lv, hh, hT, hR⟩ := h
  exact ⟨f1, f2, f3, lv, (hb.block _ (blk_lt hh)).trans hh, hT.below hb, Kd.R_below hR hb⟩

theorem forms_asks {order n b0 b1 s : Nat} {l : List S59} {W : World} (h : FormsAt order n b0 b1 s l W) (hl : l.length ≤ 1073741824) :
    Calls Try.prog 19 #[.pointer (some ⟨s, 0, none⟩), .agg #[.int .i64 8, .bool false, .string ⟨#[]⟩, .string ⟨#[]⟩, .int .i64 0, .int .i64 0, .bool false], .int .i64 (order : Nat)] W fun e w' => e = .returned (.bool true) ∧ Below W.heap.size W w' := by
  obtain ⟨f1, f2, f3, lv, hh, hT, hR⟩ := h
  obtain ⟨A, c, rfl, hc, hC⟩ := Kd.R_reads hR
  exact asks_nodes hT.1 hT.2.1 (hT.tl (fun hk => hk.2.1 rfl)) hl ((blk_cell hh 0).trans rfl) ((blk_cell hh 1).trans rfl) hC hc _ _ _ _ _ _

theorem forms_changes {order n b0 b1 s : Nat} {l : List S59} {W : World} (h : FormsAt order n b0 b1 s l W) (kd x i : Int) (kk k2 : ByteArray) (other beyond : Bool) (hk : kk.size ≤ 281474976710656) (hl : l.length < 1073741824) :
    Calls Try.prog 21 #[.pointer (some ⟨s, 0, none⟩), .agg #[.int .i64 kd, .bool other, .string kk, .string k2, .int .i64 x, .int .i64 i, .bool beyond]] W fun e w' => e = .returned (.bool true) ∧ FormsAt order n b0 b1 s (chL l kd kk x) w' ∧ Two s b0 W w' := by
  obtain ⟨f1, f2, f3, lv, hh, hT, hR⟩ := h
  have hs := blk_lt hh
  refine (changes_calls (o := 0) (ok := OkF n b0 b1 s) (okr := OkF n b0 b1 s) hT (fun k hk => ⟨by omega, by omega, by omega, by omega⟩) (fun hk => hk.2.1 rfl) (fun hk => hk.2.2.2 rfl) (by omega) hh rfl rfl hR (fun k hk => ⟨by omega, by omega, by omega, by omega⟩) (fun hk => hk.2.2.2 rfl) (fun hk => hk.2.1 rfl) kd x i kk k2 other beyond hk hl).mono ?_
  rintro e w' ⟨rfl, lv', h1, h2, h3, h4⟩
  exact ⟨rfl, ⟨f1, f2, f3, lv', h1, h2, h3⟩, h4⟩

theorem chL_length (l : List S59) (kd x : Int) (k : ByteArray) : (chL l kd k x).length ≤ l.length + 1 := by
  unfold chL
  split
  · have := insL_length l k x
    split at this <;> omega
  · have := delL_length l k
    omega
theorem Two.belowN {a b m : Nat} {w w' : World} (h : Two a b w w') (hm : m ≤ w.heap.size) (ha : m ≤ a) (hb : m ≤ b) : Below m w w' := ⟨h.os, h.tape, h.output, h.size, fun k hk => h.block k (by omega) (by omega) (by omega)⟩

set_option maxRecDepth 100000 in
set_option maxHeartbeats 8000000 in
theorem forms_good (order : Nat) (h3 : 3 ≤ order) (h4 : order ≤ 64) (A : Option Addr) (c : Nat) (ops : List S46) (w : World) (hO : OpsAt w A ops.length ops) (hc : ops.length ≤ c) (hn : ops.length ≤ 2097152) (hz : ∀ x ∈ ops, x.k.size ≤ 281474976710656) :
    Calls Try.prog 5 #[.int .i64 (order : Nat), .slice A ops.length c] w fun e w' => e = .returned (.bool true) ∧ Below w.heap.size w w' := by
  have hu27 := Try.underlying27
  have hu46 := Try.underlying46
  have hu49 := Try.underlying49
  have HO := Aside0.mk hO
  have HZ := Aside0.mk hz
  have HBE := Aside0.mk (begun_calls order h3 h4 w)
  clear hO hz
  go_enter Try.func5, Try.ntmps5
  go_wp2_with fail
  refine HBE.out.mono ?_
  rintro e w1 ⟨hB1, b0, b1, rfl, h20, h01, hT0, hT1⟩
  have hn1 := heap_alloc_new w1 (.cells #[.pointer (some ⟨b0, 0, none⟩), .slice none 0 0, .pointer (some ⟨b1, 0, none⟩), .slice none 0 0] 49)
  have hb1 := below_mk (Below.refl w1.heap.size w1) (.cells #[.pointer (some ⟨b0, 0, none⟩), .slice none 0 0, .pointer (some ⟨b1, 0, none⟩), .slice none 0 0] 49)
  have hl0 := hT0.lt
  have hl1 := hT1.lt
  have HF : Aside0 (FormsAt order (w.heap.size + 2) b0 b1 w1.heap.size [] (w1.alloc (.cells #[.pointer (some ⟨b0, 0, none⟩), .slice none 0 0, .pointer (some ⟨b1, 0, none⟩), .slice none 0 0] 49))) :=
    ⟨hl0, hl1, h20, .slice none 0 0, hn1, (hT0.imp (fun k hk hlt => (⟨hk.1, hk.2.1, hk.2.2, by omega⟩ : OkF (w.heap.size + 2) b0 b1 w1.heap.size k))).below hb1, Kd.R_nil _ _ _ _ _⟩
  have HB2 := Aside0.mk (hB1.trans (hb1.mono hB1.size))
  clear hB1 hT0 hT1 HBE hn1 hb1
  have HLV := Aside0.mk (live_calls (w1.alloc (.cells #[.pointer (some ⟨b0, 0, none⟩), .slice none 0 0, .pointer (some ⟨b1, 0, none⟩), .slice none 0 0] 49)))
  go_wp2_with fail
  refine HLV.out.mono ?_
  rintro e w2 ⟨rfl, hb2⟩
  have HI : Aside0 (FormsInv order (w.heap.size + 2) b0 b1 w1.heap.size w 0 w2) := by
    obtain ⟨f1, f2, f3, lv, hh, hT, hR⟩ := HF.out
    exact ⟨HB2.out.trans (hb2.mono HB2.out.size), [], Nat.le_refl _, f1, f2, f3, lv, (hb2.block _ (blk_lt hh)).trans hh, hT.below hb2, Kd.R_below hR hb2⟩
  clear HF HB2 HLV hb2
  obtain ⟨s, hs⟩ : ∃ s, s = w1.heap.size := ⟨_, rfl⟩
  rw [← hs] at HI ⊢
  clear hs hl0 hl1
  go_wp2
  go_loopw [26] (fun v W => ∃ i : Nat, v = .int .i64 i ∧ i ≤ ops.length ∧ Aside0 (FormsInv order (w.heap.size + 2) b0 b1 s w i W)) (fun v W => ops.length - (RowKit.intOf v).toNat)
  case atStart => exact ⟨0, rfl, Nat.zero_le _, HI⟩
  case round =>
    clear HI
    obtain ⟨i, rfl, hi, ⟨hB, l, hl, f1, f2, f3, lv, hh, hT, hR⟩⟩ := hrel
    by_cases hlt : i < ops.length
    · have q1 : decide (((i : Nat) : Int) < ((ops.length : Nat) : Int)) = true := decide_eq_true (by omega)
      have p0 : (0 : Int) ≤ ((i : Nat) : Int) := by omega
      have p1 : ((i : Nat) : Int) < ((ops.length : Nat) : Int) := by omega
      obtain ⟨ad, rfl, hcell⟩ := (HO.out.below hB).2 (by omega)
      have hx := hcell i ops[i] (List.getElem?_eq_getElem hlt)
      have hkz := HZ.out _ (List.getElem_mem hlt)
      generalize ops[i] = x at *
      obtain ⟨kd, other, k, k2, v, ii, beyond⟩ := x
      have c0 : wr.cell? (ad.add (i * 7)) = some (.int .i64 kd) := hx.1
      have c1 : wr.cell? ⟨(ad.add (i * 7)).block, (ad.add (i * 7)).off + 1, none⟩ = some (.bool other) := hx.2 1 _ (by omega) rfl
      have c2 : wr.cell? ⟨(ad.add (i * 7)).block, (ad.add (i * 7)).off + 2, none⟩ = some (.string k) := hx.2 2 _ (by omega) rfl
      have c3 : wr.cell? ⟨(ad.add (i * 7)).block, (ad.add (i * 7)).off + 3, none⟩ = some (.string k2) := hx.2 3 _ (by omega) rfl
      have c4 : wr.cell? ⟨(ad.add (i * 7)).block, (ad.add (i * 7)).off + 4, none⟩ = some (.int .i64 v) := hx.2 4 _ (by omega) rfl
      have c5 : wr.cell? ⟨(ad.add (i * 7)).block, (ad.add (i * 7)).off + 5, none⟩ = some (.int .i64 ii) := hx.2 5 _ (by omega) rfl
      have c6 : wr.cell? ⟨(ad.add (i * 7)).block, (ad.add (i * 7)).off + 6, none⟩ = some (.bool beyond) := hx.2 6 _ (by omega) rfl
      replace p0 := eq_true p0
      replace p1 := eq_true p1
      have HB := Aside0.mk hB
      have HF : Aside0 (FormsAt order (w.heap.size + 2) b0 b1 s l wr) := ⟨⟨f1, f2, f3, lv, hh, hT, hR⟩⟩
      have hbx := below_mk (Below.refl wr.heap.size wr) (.cells #[.int .i64 kd, .bool other, .string k, .string k2, .int .i64 v, .int .i64 ii, .bool beyond] 46)
      have HFX := Aside0.mk (forms_below HF.out hbx)
      have HBX := Aside0.mk (hB.trans (hbx.mono hB.size))
      have hkz' : k.size ≤ 281474976710656 := hkz
      have HCH := Aside0.mk (forms_changes HFX.out kd v ii k k2 other beyond hkz' (by omega))
      have HAS0 := Aside0.mk (forms_asks HFX.out (by omega))
      have hsw : w.heap.size ≤ s := by omega
      have hbw : w.heap.size ≤ b0 := by omega
      clear hB hh hT hR hcell hx hbx
      have hmain : Aside0 (∀ W l', FormsAt order (w.heap.size + 2) b0 b1 s l' W → l'.length ≤ i + 1 → Below w.heap.size w W → Aside0 (FormsInv order (w.heap.size + 2) b0 b1 s w (i + 1) W)) := ⟨fun W l' h1 h2 h3 => ⟨h3, l', h2, h1⟩⟩
      by_cases hch : kd = 0 ∨ kd = 1
      · rcases hch with rfl | rfl
        all_goals
          go_wp2_with fail
          refine HCH.out.mono ?_
          rintro e w5 ⟨rfl, hF5, hTw⟩
          have hl5 := fun kd => chL_length l kd v k
          have HF5 := Aside0.mk hF5
          have HB5 := Aside0.mk (HBX.out.trans (hTw.belowN HBX.out.size hsw hbw))
          have HL5 := Aside0.mk hl5
          have HA5 := Aside0.mk (forms_asks hF5 (Nat.le_trans (hl5 _) (by omega)))
          clear hF5 hTw hl5 HCH
          go_wp2_with fail
          refine HA5.out.mono ?_
          rintro e w6 ⟨rfl, hb6⟩
          have HI := hmain.out w6 _ (forms_below HF5.out hb6) (Nat.le_trans (HL5.out _) (by omega)) (HB5.out.trans (hb6.mono HB5.out.size))
          clear hb6 HF5 HB5 HL5 HA5 HAS0 HFX HBX HF HB hmain
          go_wp2
          go_roundw
          case measure => show ops.length - (i + 1) < ops.length - i; omega
          case rel => exact ⟨i + 1, by first | rfl | (simp; done) | (congr 1), by omega, HI⟩
      · have n0 : decide (kd = 0) = false := decide_eq_false (fun h => hch (.inl h))
        have n1 : decide (kd = 1) = false := decide_eq_false (fun h => hch (.inr h))
        have n2 : (kd == 0) = false := by simpa using n0
        have n3 : (kd == 1) = false := by simpa using n1
        have n4 : (kd = 0) = False := eq_false (fun h => hch (.inl h))
        have n5 : (kd = 1) = False := eq_false (fun h => hch (.inr h))
        clear hch HCH
        go_wp2_with fail
        refine HAS0.out.mono ?_
        rintro e w6 ⟨rfl, hb6⟩
        have HI := hmain.out w6 _ (forms_below HFX.out hb6) (by omega) (HBX.out.trans (hb6.mono HBX.out.size))
        clear hb6 HAS0 HFX HBX HF HB hmain
        go_wp2
        go_roundw
        case measure => show ops.length - (i + 1) < ops.length - i; omega
        case rel => exact ⟨i + 1, by first | rfl | (simp; done) | (congr 1), by omega, HI⟩
    · have q1 : decide (((i : Nat) : Int) < ((ops.length : Nat) : Int)) = false := decide_eq_false (by omega)
      have HB := Aside0.mk hB
      clear hB hh hT hR
      go_wp2
      go_ret
      exact ⟨rfl, HB.out⟩

set_option maxRecDepth 100000 in
set_option maxHeartbeats 8000000 in
theorem forms_bad (order : Int) (h : order < 3 ∨ 64 < order) (v : Value) (w : World) :
    Calls Try.prog 5 #[.int .i64 order, v] w fun e w' => e = .returned (.bool true) ∧ Below w.heap.size w w' := by
  have hu27 := Try.underlying27
  have hu49 := Try.underlying49
  have HBE := Aside0.mk (begun_bad order h w)
  clear h
  go_enter Try.func5, Try.ntmps5
  go_wp2_with fail
  refine HBE.out.mono ?_
  rintro e w1 ⟨hB1, rfl⟩
  have hb1 := below_mk (Below.refl w1.heap.size w1) (.cells #[.pointer none, .slice none 0 0, .pointer none, .slice none 0 0] 49)
  have HB2 := Aside0.mk (hB1.trans (hb1.mono hB1.size))
  clear hB1 hb1
  have HLV := Aside0.mk (live_calls (w1.alloc (.cells #[.pointer none, .slice none 0 0, .pointer none, .slice none 0 0] 49)))
  go_wp2_with fail
  refine HLV.out.mono ?_
  rintro e w2 ⟨rfl, hb2⟩
  have HB3 := Aside0.mk (HB2.out.trans (hb2.mono HB2.out.size))
  clear hb2 HB2 HLV
  go_wp2
  go_ret
  exact ⟨rfl, HB3.out⟩
end Go.Proofs.Ytjabcdfbncglnaa
