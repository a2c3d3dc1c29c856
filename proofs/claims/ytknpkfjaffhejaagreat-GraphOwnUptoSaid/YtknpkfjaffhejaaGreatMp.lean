/- WHAT IS PROVED: a map of the program's, told by what stands at its keys, whatever the elements. -/
import Derived.Test.YtknpkfjaffhejaaGreatCl
import Derived.Maps.Views
import Derived.Maps.OwnSet
namespace Go.Proofs.YtknpkfjaffhejaaGreat
open Go.RowKit Go.Proofs.YtknpkfjaffhejaaGreatW.PrintWords Go.Proofs.YtknpkfjaffhejaaGreatW.PrintLast Go.Proofs.YtknpkfjaffhejaaGreatW.PrintMore
set_option linter.unusedVariables false
set_option linter.unusedSimpArgs false

/-- An element read as itself. -/
def heldR (v : Value) : Option (DataW Value × List MemPlace) := some (.held v, [])

/-- A key type. -/
structure KeyK {α : Type} (kt : TypeId) (enc : α → Value) (ok : α → Prop) : Prop where
  law : Maps.Keyed Tryz.prog kt
  key : ∀ x, ok x → ∃ l, keyOf Tryz.prog kt (enc x) = some l
  inj : ∀ x y, enc x = enc y → x = y

def MapAt {α : Type} (kt : TypeId) (enc : α → Value) (ok : α → Prop) (z : Value) (W : World) (b n : Nat) (ks : List α) (g : α → Value) : Prop :=
  ∃ D, W.ownsMap Tryz.prog kt heldR b n D ∧ Maps.IsMap D ∧ ∀ x l, ok x → keyOf Tryz.prog kt (enc x) = some l → D.atKey l (.held z) = .held (g x) ∧ (Maps.has D l = true ↔ x ∈ ks)

section
variable {α : Type} {kt : TypeId} {enc : α → Value} {ok : α → Prop} {z : Value} {W W' : World} {b n : Nat} {ks : List α} {g : α → Value}

theorem MapAt.made (W : World) : MapAt kt enc ok z (W.alloc (.map #[] 0)) W.heap.size 0 [] (fun _ => z) :=
  ⟨_, World.ownsMap_made W Tryz.prog kt heldR, Maps.isMap_empty, fun x l _ _ => ⟨rfl, by simp [Maps.has]⟩⟩
theorem MapAt.kept {row : Option Nat} (h : MapAt kt enc ok z W b n ks g) (hg : W.grownBy W' row) (hne : some b ≠ row) : MapAt kt enc ok z W' b n ks g := by
  obtain ⟨D, h1, h2, h3⟩ := h
  exact ⟨D, h1.kept hg hne, h2, h3⟩
theorem MapAt.lt (h : MapAt kt enc ok z W b n ks g) : b < W.heap.size := by
  obtain ⟨D, h1, _⟩ := h
  exact h1.lt
theorem MapAt.block (h : MapAt kt enc ok z W b n ks g) : ∃ es cl, W.heap[b]? = some (.map es cl) := by
  obtain ⟨D, ⟨es, cl, h, _⟩, _⟩ := h
  exact ⟨es, cl, h⟩
theorem MapAt.below (h : MapAt kt enc ok z W b n ks g) (hb : W'.heap[b]? = W.heap[b]?) : MapAt kt enc ok z W' b n ks g := by
  obtain ⟨D, ⟨es, cl, e1, e2, e3, e4⟩, h2, h3⟩ := h
  exact ⟨D, ⟨es, cl, hb.trans e1, e2, e3, e4⟩, h2, h3⟩
theorem MapAt.look (h : MapAt kt enc ok z W b n ks g) (K : KeyK kt enc ok) {t e : TypeId} (ht : Tryz.prog.underlying t = some (.map kt e)) (hz : (zeroValue e).run Tryz.prog W = .ok z W) {x : α} (hx : ok x) :
    Sem.run Tryz.prog (Instr.lookup t (.map (some b)) (enc x) false) W = .ok (g x) W := by
  obtain ⟨D, h1, h2, h3⟩ := h
  obtain ⟨l, hl⟩ := K.key x hx
  obtain ⟨v, ps, hr, hv⟩ := h1.lookup K.law ht hz (zd := .held z) (zp := []) rfl hl
  rw [(h3 x l hx hl).1] at hv
  simp only [heldR, Option.some.injEq, Prod.mk.injEq, DataW.held.injEq] at hv
  rw [hr, hv.1]
open Classical in
noncomputable def upd (g : α → Value) (x : α) (v : Value) : α → Value := fun y => if y = x then v else g y
theorem upd_same (g : α → Value) (x : α) (v : Value) : upd g x v x = v := by simp [upd]
theorem upd_other (g : α → Value) {x y : α} (v : Value) (h : y ≠ x) : upd g x v y = g y := by simp [upd, h]
theorem MapAt.update (h : MapAt kt enc ok z W b n ks g) (K : KeyK kt enc ok) {t e : TypeId} (ht : Tryz.prog.underlying t = some (.map kt e)) (hn : n < maxLen) {x : α} (hx : ok x) (v : Value) :
    ∃ W', Sem.run Tryz.prog (Instr.mapUpdate t (.map (some b)) (enc x) v) W = .ok () W' ∧ MapAt kt enc ok z W' b (n + 1) (ks ++ [x]) (upd g x v) ∧ W.grownBy W' (some b) := by
  obtain ⟨D, h1, h2, h3⟩ := h
  obtain ⟨l, hl⟩ := K.key x hx
  obtain ⟨W', hr, ho, hg⟩ := h1.update K.law ht hn (val := v) (d := .held v) (ps := []) hl rfl
  refine ⟨W', hr, ⟨_, ho, h2.put _ _, fun y l' hy hl' => ?_⟩, hg⟩
  by_cases e : y = x
  · subst e
    rw [hl] at hl'
    injection hl' with hl'
    subst hl'
    exact ⟨by rw [Maps.atKey_put_same h2 (K.law.key hl), upd_same], by rw [Maps.has_put_same h2 (K.law.key hl)]; simp⟩
  · have hne : l' ≠ l := fun e' => e (K.inj _ _ (K.law.inj (e' ▸ hl') hl))
    rw [Maps.atKey_put_other hne, Maps.has_put_other hne, upd_other _ _ e]
    refine ⟨(h3 y l' hy hl').1, ?_⟩
    rw [(h3 y l' hy hl').2]
    simp [e]
end

def wfN (n : Int) : Prop := (Lit.int .i64 n).wf = true
/-- Keys that are strings. -/
def okS (s : ByteArray) : Prop := s.size ≤ maxLen
theorem keyS : KeyK 9 Value.string okS := ⟨Maps.string_keyed Tryz.underlying9, fun x hx => ⟨_, WideMaps.keyOf_string_mk Tryz.underlying9 hx⟩, fun x y h => by injection h⟩
end Go.Proofs.YtknpkfjaffhejaaGreat
