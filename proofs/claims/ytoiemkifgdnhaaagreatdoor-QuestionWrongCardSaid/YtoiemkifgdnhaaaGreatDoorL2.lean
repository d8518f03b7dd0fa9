/- Maps whose keys are ints, as lists of pairs; they are looked up, and written. No conditions. -/
import Derived.Test.YtoiemkifgdnhaaaGreatDoorL1
import Derived.MapKept
namespace Go.Proofs.YtoiemkifgdnhaaaGreatDoor
open Go Go.RowKit Go.MapKept
section
variable {P : Program}
theorem run_insert_new (w : World) (T K E : TypeId) (k : IntKind) (n : Int) (v : Value) (es : Array MapEntry) (c : Nat) (hT : P.underlying T = some (.map K E)) (hK : P.underlying K = some (.int k))
    (hf : Instr.findNow (.int k) (.int k n) es.toList 0 = some none) :
    (Instr.mapUpdate T (.map (some w.heap.size)) (.int k n) v).run P (w.alloc (.map es c)) = .ok () (w.alloc (.map (es.push { key := .int k n, val := v, born := c }) (c + 1))) := by
  have hg : (w.alloc (.map es c)).heap[w.heap.size]? = some (.map es c) := by show (w.heap.push _)[w.heap.size]? = _; simp
  have hc : (Instr.checkKey false 10000 K (.int k n)).run P (w.alloc (.map es c)) = .ok () (w.alloc (.map es c)) := run_checkKey hK (by simp [IsKey]) false 9999
  have hgo := Go.MapKept.run_getObj_map (P := P) hg
  have hso := Go.MapKept.run_setObj_map (P := P) (.map (es.push { key := .int k n, val := v, born := c }) (c + 1)) hg
  have hfin : ({ w.alloc (.map es c) with heap := (w.alloc (.map es c)).heap.setIfInBounds w.heap.size (.map (es.push { key := .int k n, val := v, born := c }) (c + 1)) } : World) = w.alloc (.map (es.push { key := .int k n, val := v, born := c }) (c + 1)) := by
    show ({ w with heap := (w.heap.push _).setIfInBounds w.heap.size _ } : World) = { w with heap := w.heap.push _ }
    congr 1
    apply Array.ext_getElem?
    intro i
    simp only [Array.getElem?_setIfInBounds, Array.size_push, Array.getElem?_push]
    by_cases hi : i = w.heap.size
    · subst hi; simp
    · rw [if_neg (fun h => hi h.symm), if_neg hi, if_neg hi]
  simp only [Instr.mapUpdate, Instr.findKey, Sem.run_bind, run_underlying hT, run_underlying hK, Result.andThen_ok, hgo, hc, hf, Sem.run_pure, hso, hfin]
/-- Block r is a map with the int keys and the values of l. -/
def MapAt (w : World) (r : Nat) (k : IntKind) (l : List (Int × Value)) : Prop :=
  ∃ es c, w.heap[r]? = some (.map es c) ∧ es.toList.map (fun e => (e.key, e.val)) = l.map fun p => (.int k p.1, p.2)
def lk (l : List (Int × Value)) (n : Int) : Option Value := (l.find? fun p => p.1 == n).map (·.2)
theorem findNow_int (k : IntKind) (n : Int) : ∀ (es : List MapEntry) (l : List (Int × Value)) (i : Nat), es.map (fun e => (e.key, e.val)) = l.map (fun p => (.int k p.1, p.2)) →
    ∃ r, Instr.findNow (.int k) (.int k n) es i = some r ∧ r.map (·.2) = lk l n
  | [], [], i, _ => ⟨none, rfl, rfl⟩
  | [], _ :: _, _, h => by simp at h
  | _ :: _, [], _, h => by simp at h
  | e :: es, p :: l, i, h => by
    simp only [List.map_cons, List.cons.injEq, Prod.mk.injEq] at h
    obtain ⟨⟨h1, h2⟩, h3⟩ := h
    by_cases hp : p.1 = n
    · exact ⟨some (i, e.val), by simp [Instr.findNow, h1, Instr.sameNow, hp], by simp [lk, hp, h2]⟩
    · obtain ⟨r, h4, h5⟩ := findNow_int k n es l (i + 1) h3
      exact ⟨r, by simp [Instr.findNow, h1, Instr.sameNow, show (n == p.1) = false from by simp; exact Ne.symm hp, h4], by simp [lk, hp] at h5 ⊢; exact h5⟩
theorem run_lookup (w : World) (T K E : TypeId) (k : IntKind) (n : Int) (r : Nat) (l : List (Int × Value)) (v : Value) (hT : P.underlying T = some (.map K E)) (hK : P.underlying K = some (.int k))
    (hm : MapAt w r k l) (hl : lk l n = some v) (ok : Bool) :
    (Instr.lookup T (.map (some r)) (.int k n) ok).run P w = .ok (if ok then .tuple #[v, .bool true] else v) w := by
  obtain ⟨es, c, hh, he⟩ := hm
  obtain ⟨q, h4, h5⟩ := findNow_int k n es.toList l 0 he
  rw [hl] at h5
  cases q with
  | none => simp at h5
  | some q =>
    obtain ⟨i, v'⟩ := q
    simp at h5; subst h5
    have hc : (Instr.checkKey es.isEmpty 10000 K (.int k n)).run P w = .ok () w := run_checkKey hK (by simp [IsKey]) es.isEmpty 9999
    have hgo := Go.MapKept.run_getObj_map (P := P) hh
    simp only [Instr.lookup, Instr.findKey, Sem.run_bind, run_underlying hT, run_underlying hK, Result.andThen_ok, hgo, hc, h4, Sem.run_pure]
theorem run_lookup_none (w : World) (T K E : TypeId) (k : IntKind) (n : Int) (r : Nat) (l : List (Int × Value)) (z : Value) (hT : P.underlying T = some (.map K E)) (hK : P.underlying K = some (.int k))
    (hm : MapAt w r k l) (hl : lk l n = none) (hz : (zeroValue E).run P w = .ok z w) (ok : Bool) :
    (Instr.lookup T (.map (some r)) (.int k n) ok).run P w = .ok (if ok then .tuple #[z, .bool false] else z) w := by
  obtain ⟨es, c, hh, he⟩ := hm
  obtain ⟨q, h4, h5⟩ := findNow_int k n es.toList l 0 he
  rw [hl] at h5
  cases q with
  | some q => simp at h5
  | none =>
    have hc : (Instr.checkKey es.isEmpty 10000 K (.int k n)).run P w = .ok () w := run_checkKey hK (by simp [IsKey]) es.isEmpty 9999
    have hgo := Go.MapKept.run_getObj_map (P := P) hh
    simp only [Instr.lookup, Instr.findKey, Sem.run_bind, run_underlying hT, run_underlying hK, Result.andThen_ok, hgo, hc, h4, Sem.run_pure, hz]
end
end Go.Proofs.YtoiemkifgdnhaaaGreatDoor
