/- WHAT IS PROVED: maps whose keys are sites: the key's law; an entry taken, then stored into. -/
import Derived.Test.YtknpkfjaffhejaaGreatMp
import Derived.DeepKeys4
import Derived.WideKeyEntry
namespace Go.Proofs.YtknpkfjaffhejaaGreat
open Go.RowKit Go.Proofs.YtknpkfjaffhejaaGreatW.PrintWords Go.Proofs.YtknpkfjaffhejaaGreatW.PrintLast Go.Proofs.YtknpkfjaffhejaaGreatW.PrintMore
set_option linter.unusedVariables false
set_option linter.unusedSimpArgs false

def encI (x : ByteArray × Int) : Value := .agg #[.string x.1, .int .i64 x.2]
def okI (x : ByteArray × Int) : Prop := okS x.1 ∧ wfN x.2

theorem law29 : WideMaps.KeyLaw Tryz.prog 37 :=
  deep_law_laid (by kernel_rfl) (m := 100) (by omega) (of_decide_eq_true (by kernel_rfl)) (by kernel_rfl) (by kernel_rfl)

theorem cells29 : Tryz.prog.cellsOf 37 = 2 := by kernel_rfl
theorem cells9 : Tryz.prog.cellsOf 9 = 1 := by kernel_rfl
theorem cells3 : Tryz.prog.cellsOf 3 = 1 := by kernel_rfl
theorem lits9 (d : Nat) (s : ByteArray) (h : okS s) : Tryz.prog.keyLits (d + 1) 9 [.string s] = some [.string s.data.toList] := by
  unfold Program.keyLits
  rw [Tryz.underlying9]
  exact if_pos h
theorem lits3 (d : Nat) (n : Int) (h : wfN n) : Tryz.prog.keyLits (d + 1) 3 [.int .i64 n] = some [.int .i64 n] := by
  unfold Program.keyLits
  rw [Tryz.underlying3]
  exact if_pos ⟨rfl, h⟩
theorem lits29 (d : Nat) (x : ByteArray × Int) (h : okI x) : Tryz.prog.keyLits (d + 2) 37 [.string x.1, .int .i64 x.2] = some [.string x.1.data.toList, .int .i64 x.2] := by
  unfold Program.keyLits
  rw [Tryz.underlying37]
  dsimp only
  rw [if_pos ⟨cells29.symm, by kernel_rfl⟩]
  simp only [List.mapM_cons, List.mapM_nil, cells9, cells3]
  simp [lits9 d x.1 h.1, lits3 d x.2 h.2]
theorem keyI0 (x : ByteArray × Int) (h : okI x) : ∃ l, keyOf Tryz.prog 37 (encI x) = some l := by
  have e1 : Tryz.prog.keyType 37 = true := by kernel_rfl
  have e2 : (encI x).formed Tryz.prog 37 = true := by
    unfold Value.formed encI
    rw [Tryz.underlying37]
    simp [cells29]
  obtain ⟨d, hd⟩ : ∃ d, Tryz.prog.types.size + 1 = d + 2 := ⟨Tryz.prog.types.size - 1, by have : 0 < Tryz.prog.types.size := of_decide_eq_true (by kernel_rfl); omega⟩
  refine ⟨.string (keyBytes [.string x.1.data.toList, .int .i64 x.2]), ?_⟩
  unfold keyOf
  rw [Tryz.underlying37]
  simp only [e1, e2, Bool.and_self, if_true]
  rw [hd]
  show Option.map _ (Tryz.prog.keyLits (d + 2) 37 [.string x.1, .int .i64 x.2]) = _
  rw [lits29 d x h]
  rfl
theorem keyI : KeyK 37 encI okI := ⟨Maps.Keyed.of_law law29, keyI0, fun x y h => by
  simp only [encI, Value.agg.injEq] at h
  simp at h
  exact Prod.ext h.1 h.2⟩

theorem modify_same {es : Array MapEntry} {j : Nat} {e0 : MapEntry} (hj : es[j]? = some e0) {f g : MapEntry → MapEntry} (h : f e0 = g e0) : es.modify j f = es.modify j g := by
  apply Array.ext_getElem?
  intro i
  rw [Array.getElem?_modify, Array.getElem?_modify]
  by_cases e : j = i
  · subst e
    simp [hj, h]
  · simp [e]
theorem setBlock_two (W : World) (b : Nat) (o o' : Obj) : ChangeMaps.setBlock (ChangeMaps.setBlock W b o) b o' = ChangeMaps.setBlock W b o' := by
  simp [ChangeMaps.setBlock]

set_option maxRecDepth 100000 in
/-- An entry is taken; what a lookup then gives is what it gave before; a value is stored into it. -/
theorem MapAt.entry {z : Value} {W : World} {b n : Nat} {ks : List (ByteArray × Int)} {g : ByteArray × Int → Value} (h : MapAt 37 encI okI z W b n ks g) {t e : TypeId} (ht : Tryz.prog.underlying t = some (.map 37 e)) (hz : ∀ u : World, (zeroValue e).run Tryz.prog u = .ok z u) (hn : n < maxLen) {x : ByteArray × Int} (hx : okI x) (v : Value) :
    ∃ (v0 : Value) (st : Nat) (We Wf : World), Sem.run Tryz.prog (Instr.mapEntry t (.map (some b)) (encI x)) W = .ok (.tuple #[v0, goInt st]) We ∧ MapAt 37 encI okI z We b (n + 1) (ks ++ [x]) (upd g x (g x)) ∧ W.grownBy We (some b) ∧
      Sem.run Tryz.prog (Instr.entryStore t (.map (some b)) (goInt st) v) We = .ok () Wf ∧ MapAt 37 encI okI z Wf b (n + 1) (ks ++ [x]) (upd g x v) ∧ W.grownBy Wf (some b) := by
  have hlook := h.look keyI ht (hz W) hx
  have h' := h
  obtain ⟨D, ⟨es, clock, hb, F, hs, hD⟩, _, _⟩ := h'
  obtain ⟨l, hl⟩ := keyI.key x hx
  obtain ⟨v0, st, es1, clock1, hrun, _, hval⟩ := WideElems.entry_then_store law29 ht hz hb F hl
  have hwe : (ChangeMaps.setBlock W b (.map es1 clock1)).heap[b]? = some (.map es1 clock1) := by
    have := (Array.getElem?_eq_some_iff.1 hb).1
    simp [ChangeMaps.setBlock, this]
  obtain ⟨es', clock', hst, hup⟩ := hval (ChangeMaps.setBlock W b (.map es1 clock1)) v hwe
  obtain ⟨W1, hr1, hm1, hg1⟩ := h.update keyI ht hn hx v
  rw [hup] at hr1
  injection hr1 with _ hr1
  subst hr1
  rw [setBlock_two] at hst
  obtain ⟨W2, hr2, hm2, hg2⟩ := h.update keyI ht hn hx (g x)
  have hWe : W2 = ChangeMaps.setBlock W b (.map es1 clock1) := by
    rcases law29.find W hl es.toList F.keys with ⟨h1, h2⟩ | ⟨j, e0, h1, h2, h3⟩
    · have hgz : Value.agg #[] = Value.agg #[] := rfl
      have e1 : Sem.run Tryz.prog (Instr.lookup t (.map (some b)) (encI x) false) W = .ok z W := by
        simp [Instr.lookup, run_underlying ht, MapKept.run_getObj_map hb, law29.check W es.isEmpty hl, h1, hz, Result.andThen]
      rw [hlook] at e1
      injection e1 with e1
      rw [e1] at hr2
      have e2 : Sem.run Tryz.prog (Instr.mapUpdate t (.map (some b)) (encI x) z) W = .ok () (ChangeMaps.setBlock W b (.map (es.push ⟨encI x, z, clock⟩) (clock + 1))) := by
        simp [Instr.mapUpdate, run_underlying ht, MapKept.run_getObj_map hb, law29.check W false hl, h1, MapKept.run_setObj_map _ hb, Result.andThen, ChangeMaps.setBlock]
      have e3 : Sem.run Tryz.prog (Instr.mapEntry t (.map (some b)) (encI x)) W = .ok (.tuple #[z, goInt clock]) (ChangeMaps.setBlock W b (.map (es.push ⟨encI x, z, clock⟩) (clock + 1))) := by
        simp [Instr.mapEntry, run_underlying ht, MapKept.run_getObj_map hb, law29.check W false hl, h1, hz, MapKept.run_setObj_map _ hb, Result.andThen, ChangeMaps.setBlock]
      rw [e2] at hr2
      rw [e3] at hrun
      injection hr2 with _ hr2
      injection hrun with _ hrun
      rw [← hr2, ← hrun]
    · have hj : es[j]? = some e0 := by simpa using h2
      have e1 : Sem.run Tryz.prog (Instr.lookup t (.map (some b)) (encI x) false) W = .ok e0.val W := by
        simp [Instr.lookup, run_underlying ht, MapKept.run_getObj_map hb, law29.check W es.isEmpty hl, h1, hz, Result.andThen]
      rw [hlook] at e1
      injection e1 with e1
      rw [e1] at hr2
      have e2 : Sem.run Tryz.prog (Instr.mapUpdate t (.map (some b)) (encI x) e0.val) W = .ok () (ChangeMaps.setBlock W b (.map (es.modify j fun e => { e with key := encI x, val := e0.val }) clock)) := by
        simp [Instr.mapUpdate, run_underlying ht, MapKept.run_getObj_map hb, law29.check W false hl, h1, hj, h3, law29.stays W hl, MapKept.run_setObj_map _ hb, Result.andThen, ChangeMaps.setBlock]
      have e3 : Sem.run Tryz.prog (Instr.mapEntry t (.map (some b)) (encI x)) W = .ok (.tuple #[e0.val, goInt e0.born]) (ChangeMaps.setBlock W b (.map (es.modify j fun e => { e with key := encI x }) clock)) := by
        simp [Instr.mapEntry, run_underlying ht, MapKept.run_getObj_map hb, law29.check W false hl, h1, hj, h3, law29.stays W hl, MapKept.run_setObj_map _ hb, Result.andThen, ChangeMaps.setBlock]
      rw [e2] at hr2
      rw [e3] at hrun
      injection hr2 with _ hr2
      injection hrun with _ hrun
      rw [← hr2, ← hrun, modify_same hj (g := fun e => { e with key := encI x }) (by simp)]
  subst hWe
  exact ⟨v0, st, _, _, hrun, hm2, hg2, hst, hm1, hg1⟩
end Go.Proofs.YtknpkfjaffhejaaGreat
