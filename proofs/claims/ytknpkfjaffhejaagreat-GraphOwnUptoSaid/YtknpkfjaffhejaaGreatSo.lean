/- WHAT IS PROVED: the program's order of edges (and of sites) is a strict total order; SortFunc sorts by it. -/
import Derived.Test.YtknpkfjaffhejaaGreatRw
namespace Go.Proofs.YtknpkfjaffhejaaGreat
open Go.RowKit Go.Sort Go.Proofs.YtknpkfjaffhejaaGreatW.PrintWords Go.Proofs.YtknpkfjaffhejaaGreatW.PrintLast Go.Proofs.YtknpkfjaffhejaaGreatW.PrintMore
set_option linter.unusedVariables false
set_option linter.unusedSimpArgs false

/-- A comparison that is a total order. -/
structure Cmp3 {α : Type} (c : α → α → Int) : Prop where
  refl : ∀ x, c x x = 0
  eq : ∀ x y, c x y = 0 → x = y
  anti : ∀ x y, c x y < 0 → 0 < c y x
  pos : ∀ x y, 0 < c x y → c y x < 0
  trans : ∀ x y z, c x y < 0 → c y z < 0 → c x z < 0

def lexC (a b : Int) : Int := if a = 0 then b else a

theorem Cmp3.lex {α β : Type} {c : α → α → Int} {d : β → β → Int} (h : Cmp3 c) (k : Cmp3 d) : Cmp3 (fun x y : α × β => lexC (c x.1 y.1) (d x.2 y.2)) where
  refl x := by simp [lexC, h.refl, k.refl]
  eq x y e := by
    unfold lexC at e
    split at e
    · rename_i e1
      exact Prod.ext (h.eq _ _ e1) (k.eq _ _ e)
    · contradiction
  anti x y e := by
    unfold lexC at e ⊢
    split at e
    · rename_i e1
      have := h.eq _ _ e1
      rw [if_pos (by rw [this, h.refl])]
      exact k.anti _ _ e
    · have := h.anti _ _ e
      rw [if_neg (by omega)]
      exact this
  pos x y e := by
    unfold lexC at e ⊢
    split at e
    · rename_i e1
      have := h.eq _ _ e1
      rw [if_pos (by rw [this, h.refl])]
      exact k.pos _ _ e
    · have := h.pos _ _ e
      rw [if_neg (by omega)]
      exact this
  trans x y z e f := by
    unfold lexC at e f ⊢
    split at e
    · rename_i e1
      have e2 := h.eq _ _ e1
      split at f
      · rename_i f1
        have f2 := h.eq _ _ f1
        rw [if_pos (by rw [e2, f2, h.refl])]
        exact k.trans _ _ _ e f
      · rw [e2, if_neg (by omega)]
        exact f
    · split at f
      · rename_i f1
        have f2 := h.eq _ _ f1
        rw [← f2, if_neg (by omega)]
        exact e
      · have := h.trans _ _ _ e f
        rw [if_neg (by omega)]
        exact this

theorem Cmp3.of {α β : Type} {c : α → α → Int} (h : Cmp3 c) (f : β → α) (hf : ∀ x y, f x = f y → x = y) {d : β → β → Int} (hd : ∀ x y, d x y = c (f x) (f y)) : Cmp3 d where
  refl x := by rw [hd, h.refl]
  eq x y e := hf _ _ (h.eq _ _ (by rw [← hd]; exact e))
  anti x y e := by rw [hd] at *; exact h.anti _ _ e
  pos x y e := by rw [hd] at *; exact h.pos _ _ e
  trans x y z e f := by rw [hd] at *; exact h.trans _ _ _ e f

theorem Cmp3.swo {α : Type} {c : α → α → Int} (h : Cmp3 c) : SWO (ltOf c) where
  irrefl x := by unfold ltOf; rw [h.refl]; rfl
  trans x y z e f := by
    unfold ltOf at *
    simp only [decide_eq_true_eq] at *
    exact h.trans _ _ _ e f
  ntrans x y z e f := by
    unfold ltOf at *
    simp only [decide_eq_false_iff_not] at *
    intro g
    rcases Int.lt_trichotomy (c x y) 0 with a | a | a
    · exact e a
    · have := h.eq _ _ a; rw [this] at g; exact f g
    · have a' := h.pos _ _ a
      exact f (h.trans _ _ _ a' g)
theorem Cmp3.total {α : Type} {c : α → α → Int} (h : Cmp3 c) (x y : α) (e : ltOf c x y = false) (f : ltOf c y x = false) : x = y := by
  unfold ltOf at *
  simp only [decide_eq_false_iff_not] at *
  rcases Int.lt_trichotomy (c x y) 0 with a | a | a
  · exact absurd a e
  · exact h.eq _ _ a
  · exact absurd (h.pos _ _ a) f

theorem cmpS3 : Cmp3 cmpS where
  refl x := by simp [cmpS, blt_irrefl]
  eq x y e := by
    unfold cmpS at e
    cases h1 : blt x y
    · cases h2 : blt y x
      · exact blt_tri h1 h2
      · simp [h1, h2] at e
    · simp [h1] at e
  anti x y e := by
    unfold cmpS at *
    cases h1 : blt x y
    · cases h2 : blt y x <;> simp [h1, h2] at e
    · simp [h1, blt_asymm h1]
  pos x y e := by
    unfold cmpS at *
    cases h1 : blt x y
    · cases h2 : blt y x
      · simp [h1, h2] at e
      · simp [h2]
    · simp [h1] at e
  trans x y z e f := by
    unfold cmpS at *
    have g : ∀ a b, (if blt a b = true then (-1 : Int) else if blt b a = true then 1 else 0) < 0 → blt a b = true := fun a b h => by
      cases h1 : blt a b
      · cases h2 : blt b a <;> simp [h1, h2] at h
      · rfl
    simp [blt_trans (g _ _ e) (g _ _ f)]

theorem cmpI3 : Cmp3 cmpI where
  refl x := by simp [cmpI]
  eq x y e := by unfold cmpI at e; split at e; contradiction; split at e; contradiction; omega
  anti x y e := by unfold cmpI at *; split at e; rw [if_neg (by omega), if_pos (by omega)]; omega; split at e <;> omega
  pos x y e := by unfold cmpI at *; split at e; omega; split at e; rw [if_pos (by omega)]; omega; omega
  trans x y z e f := by
    unfold cmpI at *
    have g : ∀ a b : Int, (if a < b then (-1 : Int) else if b < a then 1 else 0) < 0 → a < b := fun a b h => by
      split at h
      · assumption
      · split at h <;> omega
    have := g _ _ e
    have := g _ _ f
    rw [if_pos (by omega)]
    omega

def cmpB (v v' : Bool) : Int := if v = v' then 0 else if v' then -1 else 1
theorem cmpB3 : Cmp3 cmpB := ⟨by decide, by decide, by decide, by decide, by decide⟩

theorem orI_2 (a b : Int) : orI [a, b] = lexC a b := by
  unfold lexC
  by_cases h : a = 0 <;> by_cases k : b = 0 <;> simp [orI, h, k]
theorem orI_3 (a b c : Int) : orI [a, b, c] = lexC a (lexC b c) := by
  unfold lexC
  by_cases h : a = 0 <;> by_cases k : b = 0 <;> by_cases m : c = 0 <;> simp [orI, h, k, m]
theorem lexC_assoc (a b c : Int) : lexC a (lexC b c) = lexC (lexC a b) c := by
  unfold lexC
  by_cases h : a = 0 <;> by_cases k : b = 0 <;> simp [h, k]

theorem lex4 (a b c d : Int) : lexC a (lexC b (lexC c d)) = lexC (lexC a (lexC b c)) d := by rw [lexC_assoc b c d, lexC_assoc a (lexC b c) d]

/-- The order of sites. -/
def cmpSite (x y : ByteArray × Int) : Int := cmpId x.1 x.2 y.1 y.2
theorem cmpSite3 : Cmp3 cmpSite := (cmpS3.lex cmpI3).of id (fun _ _ h => h) fun x y => by simp [cmpSite, cmpId, orI_2]

theorem cmpE_lex (a b : Edge) : cmpE a b = lexC (cmpSite (a.p, a.n) (b.p, b.n)) (lexC (cmpSite (a.q, a.m) (b.q, b.m)) (lexC (cmpI a.k b.k) (cmpB a.v b.v))) := by
  unfold cmpE
  rw [orI_3, lex4]
  show _ = lexC (lexC (cmpId a.p a.n b.p b.n) (lexC (cmpId a.q a.m b.q b.m) (cmpI a.k b.k))) _
  generalize lexC (cmpId a.p a.n b.p b.n) (lexC (cmpId a.q a.m b.q b.m) (cmpI a.k b.k)) = o
  unfold cmpB
  by_cases h : o = 0
  · subst h
    by_cases hv : a.v = b.v <;> simp [lexC, hv]
  · simp [lexC, h]
theorem cmpE3 : Cmp3 cmpE := (cmpSite3.lex (cmpSite3.lex (cmpI3.lex cmpB3))).of (fun e : Edge => ((e.p, e.n), ((e.q, e.m), (e.k, e.v)))) (fun x y h => by
  obtain ⟨p, n, q, m, k, v⟩ := x
  obtain ⟨p', n', q', m', k', v'⟩ := y
  simp at h
  obtain ⟨⟨rfl, rfl⟩, ⟨rfl, rfl⟩, rfl, rfl⟩ := h
  rfl) cmpE_lex

theorem cmpLaysE (blk off size : Nat) (w : World) : CmpLays Tryz.prog 60 #[] encE 6 cmpE blk off size w := fun m os dk hs x y => by
  refine (compare_calls x y _).mono ?_
  rintro e w' ⟨rfl, hg⟩
  exact ⟨rfl, hg⟩

/-- The edges of a list, sorted. -/
def sortE (l : List Edge) : List Edge := l.mergeSort fun x y => !(ltOf cmpE) y x

theorem sort_calls (w0 : World) (blk off cap : Nat) (d : Array Edge) (W : World) (h : Row w0 blk off d W) (hsz : d.size < 4611686018427387904) :
    Calls Tryz.prog 59 #[.slice (some ⟨blk, off, none⟩) d.size cap, .func (.func 60) #[] #[]] W fun e W' => e = .returned (.tuple #[]) ∧ Row w0 blk off (sortE d.toList).toArray W' := by
  have eg : ∀ args w, (callFunc 60 args).run Tryz.prog w = .ok (.enter 60 args) w := enters_of Tryz.func60 (by kernel_rfl) rfl
  have hcon := AnyQ.slices_SortFunc_total Tryz.sortEdge 6 Tryz.isAgg39 Tryz.sizeOf39 encE encE_len encE_one cmpE cmpE3.swo 60 #[] blk off cap d W eg (cmpLaysE blk off d.size W) h.holds h.lt hsz cmpE3.total
  change Calls Tryz.prog 59 _ _ _ at hcon
  refine hcon.mono ?_
  rintro e w' ⟨rfl, n, os, rfl⟩
  exact ⟨rfl, h.sorted (by simp [sortE]) n os⟩
theorem sort_none (p : Option Addr) (cap : Nat) (W : World) (fv : Value) : Calls Tryz.prog 59 #[.slice p 0 cap, fv] W fun e W' => e = .returned (.tuple #[]) ∧ W' = W :=
  AnyF.slices_SortFunc_none Tryz.sortEdge p cap fv W
end Go.Proofs.YtknpkfjaffhejaaGreat
