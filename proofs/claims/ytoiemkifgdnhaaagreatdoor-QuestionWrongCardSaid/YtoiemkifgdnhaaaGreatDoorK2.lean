/- Copies of plans by the reference. Conditions: no question is without an answer; each value is one of the eleven. -/
import Derived.Test.YtoiemkifgdnhaaaGreatDoorK1
namespace Go.Proofs.YtoiemkifgdnhaaaGreatDoor
open Go Go.RowKit
theorem apart_snoc {l : List Value} {x : Value} (h : Apart l) (hx : ∀ (i : Nat) (u : Value) (g : Nat), l[i]? = some u → u.ownBlock = some g → x.ownBlock ≠ some g) : Apart (l ++ [x]) := by
  intro j k u u' g hjk hu hu' hg hg'
  have get : ∀ (i : Nat) (v : Value), (l ++ [x])[i]? = some v → (i < l.length ∧ l[i]? = some v) ∨ (i = l.length ∧ v = x) := by
    intro i v hv
    by_cases hi : i < l.length
    · rw [List.getElem?_append_left hi] at hv; exact .inl ⟨hi, hv⟩
    · rw [List.getElem?_append_right (by omega)] at hv
      rcases hn : i - l.length with _ | n
      · rw [hn] at hv; cases hv; exact .inr ⟨by omega, rfl⟩
      · rw [hn] at hv; simp at hv
  rcases get j u hu with ⟨h1, h2⟩ | ⟨h1, rfl⟩ <;> rcases get k u' hu' with ⟨h3, h4⟩ | ⟨h3, rfl⟩
  · exact h j k u u' g hjk h2 h4 hg hg'
  · exact hx j u g h2 hg hg'
  · exact hx k u' g h4 hg' hg
  · omega
/-- A question is put behind. -/
theorem AsksAt.add {w w' : World} {B : Nat} {v v' : Value} {qs : List Ask} {os : List (Nat × Value × Value)} {o : Nat × Value × Value} {a : Ask} {zs : List ZV} (h : AsksAt w B v qs os)
    (h1 : o.1 = a.1) (h2 : zs.map (·.1) = a.2.1) (h3 : w.ownsRow B 47 7 o.2.1 zs.length (cvs zs)) (h4 : w.ownsRow B 3 1 o.2.2 a.2.2.length (ci a.2.2))
    (f1 : ∀ (i : Nat) (u : Value) (g : Nat), (os.map (·.2.1))[i]? = some u → u.ownBlock = some g → o.2.1.ownBlock ≠ some g) (f2 : ∀ (i : Nat) (u : Value) (g : Nat), (os.map (·.2.2))[i]? = some u → u.ownBlock = some g → o.2.2.ownBlock ≠ some g)
    (hg : w.grownBy w' v.ownBlock) (hown : w'.ownsRow B 59 3 v' (qs.length + 1) (os.flatMap askC ++ askC o)) : AsksAt w' B v' (qs ++ [a]) (os ++ [o]) := by
  refine ⟨?_, by simp [h.len], ?_, ?_, ?_⟩
  · rw [List.length_append, List.length_singleton, List.flatMap_append]; simpa using hown
  · intro i x b hx hb
    by_cases hi : i < qs.length
    · rw [List.getElem?_append_left (by rw [h.len]; exact hi)] at hx
      rw [List.getElem?_append_left hi] at hb
      obtain ⟨k1, ⟨ys, k2, k3⟩, k4⟩ := h.inn i x b hx hb
      exact ⟨k1, ⟨ys, k2, k3.kept hg (own_apart k3 h.own (by decide))⟩, k4.kept hg (own_apart k4 h.own (by decide))⟩
    · rw [List.getElem?_append_right (by rw [h.len]; omega)] at hx
      rw [List.getElem?_append_right (by omega)] at hb
      rw [h.len] at hx
      rcases hn : i - qs.length with _ | n
      · rw [hn] at hx hb; cases hx; cases hb
        exact ⟨h1, ⟨zs, h2, h3.kept hg (own_apart h3 h.own (by decide))⟩, h4.kept hg (own_apart h4 h.own (by decide))⟩
      · rw [hn] at hx; simp at hx
  · rw [List.map_append]; exact apart_snoc h.ap1 f1
  · rw [List.map_append]; exact apart_snoc h.ap2 f2
/-- The cells of a list of numbers. -/
theorem ints_news {w : World} {b o n c : Nat} {xs : List Int} (h : Ints w (.slice (some ⟨b, o, none⟩) n c) xs) : ∀ (j : Nat) (u : Value), (ci xs)[j]? = some u → w.cell? ((⟨b, o, none⟩ : Addr).add j) = some u := by
  intro j u hu
  have hj : j < xs.length := by
    have := (List.getElem?_eq_some_iff.1 hu).1; simpa [ci] using this
  obtain ⟨b1, o1, hb, g1, hc⟩ := h.1.at hj
  simp only [Option.some.injEq, Addr.mk.injEq, and_true] at hb
  obtain ⟨rfl, rfl⟩ := hb
  rw [Addr.add_lit]
  simp only [Nat.mul_one] at hc
  rw [hc, ← hu]
  simp [ci, List.getD_eq_getElem?_getD, hj]
theorem ci_one (xs : List Int) : ∀ u ∈ ci xs, u.oneCell' = true := by
  intro u hu
  simp only [ci, List.mem_map] at hu
  obtain ⟨x, _, rfl⟩ := hu; rfl
theorem own_keptA {w1 w4 : World} {B : Nat} {e : TypeId} {s n : Nat} {v : Value} {xs : List Value} {o : Obj} (h : w1.ownsRow B e s v n xs) (hg : (w1.alloc o).grownBy w4 (some w1.heap.size)) : w4.ownsRow B e s v n xs :=
  (h.alloc o).kept hg (.inr fun e => by have := h.lt _ e; omega)
theorem own_keptB {wd w1 w4 : World} {e : TypeId} {s n : Nat} {v : Value} {xs : List Value} {o : Obj} (h : w1.ownsRow (wd.alloc o).heap.size e s v n xs) (hg : w1.grownBy w4 (some wd.heap.size)) : w4.ownsRow (wd.alloc o).heap.size e s v n xs :=
  h.kept hg (.inr fun e => by have := h.lt _ e; simp at this; omega)
/-- A round of the copying: a question with rows of its own is put behind. -/
theorem AsksAt.round {wr Y w9 : World} {B B1 B2 m : Nat} {v v' r n : Value} {qs : List Ask} {os : List (Nat × Value × Value)} {a : Ask} {zs : List ZV} {ob : Obj} (h : AsksAt wr B v qs os) (hb : Below wr.heap.size wr Y) (h2 : zs.map (·.1) = a.2.1)
    (h3 : Y.ownsRow B1 47 7 r a.2.1.length (cvs zs)) (h4 : Y.ownsRow B2 3 1 n a.2.2.length (ci a.2.2)) (s0 : B ≤ wr.heap.size) (s1 : wr.heap.size ≤ B1) (s2 : wr.heap.size ≤ B2) (hg : (Y.alloc ob).grownBy w9 v.ownBlock) (hm : qs.length = m)
    (hown : w9.ownsRow B 59 3 v' (m + 1) (os.flatMap askC ++ askC (a.1, r, n))) : AsksAt w9 B v' (qs ++ [a]) (os ++ [(a.1, r, n)]) := by
  subst hm
  have hz : zs.length = a.2.1.length := by rw [← h2, List.length_map]
  have h' : AsksAt (Y.alloc ob) B v qs os := (h.below hb).below (below1 _ _)
  rw [← hz] at h3
  refine h'.add (o := (a.1, r, n)) (a := a) (zs := zs) rfl h2 (own_base (own_below h3 (below1 _ _)) (by omega)) (own_base (own_below h4 (below1 _ _)) (by omega)) ?_ ?_ hg hown
  · intro i u g hu hg' hgr
    rw [List.getElem?_map] at hu
    cases ho : os[i]? with
    | none => rw [ho] at hu; cases hu
    | some o =>
      rw [ho] at hu; cases hu
      have hi := (List.getElem?_eq_some_iff.1 ho).1
      obtain ⟨_, ⟨ys, _, k3⟩, _⟩ := h.inn i o (qs[i]'(by rw [← h.len]; exact hi)) ho (List.getElem?_eq_getElem (by rw [← h.len]; exact hi))
      have a1 := (k3.lt g hg').2
      have a2 := (h3.lt g hgr).1
      omega
  · intro i u g hu hg' hgr
    rw [List.getElem?_map] at hu
    cases ho : os[i]? with
    | none => rw [ho] at hu; cases hu
    | some o =>
      rw [ho] at hu; cases hu
      have hi := (List.getElem?_eq_some_iff.1 ho).1
      obtain ⟨_, _, k4⟩ := h.inn i o (qs[i]'(by rw [← h.len]; exact hi)) ho (List.getElem?_eq_getElem (by rw [← h.len]; exact hi))
      have a1 := (k4.lt g hg').2
      have a2 := (h4.lt g hgr).1
      omega
/-- The three blocks of the copying, behind a round. -/
theorem HB9.mk {w wr w9 : World} {B3 : Nat} {c0 c1 : Array Value} {o v' dp lo : Value} {t : TypeId} {qs : List Ask} {os : List (Nat × Value × Value)} (T : Nat) (hb9 : Below B3 wr w9) (y0 : T < B3) (y2 : T + 1 + 1 < B3) (hB3 : B3 = T + 1 + 1 + 1)
    (h0 : wr.heap[T]? = some (.cells c0 t)) (h1 : wr.heap[T + 1]? = some (.cells c1 t)) (h2 : wr.heap[T + 1 + 1]? = some (.cells #[o, dp, lo] t)) (hA : AsksAt w9 B3 v' qs os) (hbl : Below T w wr) :
    (w9.setCell ⟨T + 1 + 1, 0, none⟩ v').heap[T]? = some (.cells c0 t) ∧ (w9.setCell ⟨T + 1 + 1, 0, none⟩ v').heap[T + 1]? = some (.cells c1 t) ∧ (w9.setCell ⟨T + 1 + 1, 0, none⟩ v').heap[T + 1 + 1]? = some (.cells #[v', dp, lo] t) ∧
      AsksAt (w9.setCell ⟨T + 1 + 1, 0, none⟩ v') (T + 3) v' qs os ∧ Below T w (w9.setCell ⟨T + 1 + 1, 0, none⟩ v') := by
  have e : B3 = T + 3 := by omega
  refine ⟨?_, ?_, ?_, ?_, ?_⟩
  · exact (heap_setCell_other w9 ⟨T + 1 + 1, 0, none⟩ T v' (by simp; omega)).trans ((hb9.block T (by omega)).trans h0)
  · exact (heap_setCell_other w9 ⟨T + 1 + 1, 0, none⟩ (T + 1) v' (by simp)).trans ((hb9.block (T + 1) (by omega)).trans h1)
  · exact heap_setCell_same w9 (T + 1 + 1) 0 _ t v' ((hb9.block (T + 1 + 1) (by omega)).trans h2)
  · rw [← e]; exact hA.setlow (by omega)
  · exact (hbl.trans (hb9.mono (by omega))).setCell (by simp; omega) _
def CopyPost (p : PlanS) (w : World) (e : Ending) (w' : World) : Prop := ∃ v', e = .returned v' ∧ OwnPlan w' w.heap.size v' p ∧ Below w.heap.size w w'
set_option maxRecDepth 100000 in
set_option maxHeartbeats 4000000 in
theorem copyPlan (w : World) (v : Value) (p : PlanS) (hv : PlanAt w v (planI p)) (hn : ∀ a ∈ p.asks, a.2.2 ≠ []) : Calls Tryz.prog 31 #[v] w (CopyPost p w) := by
  obtain ⟨qv, rfl, hq⟩ := hv
  obtain ⟨qs, dp, lo⟩ := p
  simp only [planI] at hq hn ⊢
  obtain ⟨qa, qc, rfl, hq1⟩ := hq.1.open
  have hql := hq.2.1
  rw [List.length_map] at *
  have HQ := Lib.hid hq; have HN := Lib.hid hn
  obtain ⟨i0, hi, hz0, hz1, hz2⟩ := info_parts info_int
  have Hi := Lib.hid hi; have Hz0 := Lib.hid hz0; have Hz1 := Lib.hid hz1; have Hz2 := Lib.hid hz2
  obtain ⟨j0, ji, jz0, jz1, jz2⟩ := info_parts info_ask
  have Ji := Lib.hid ji; have Jz0 := Lib.hid jz0; have Jz1 := Lib.hid jz1; have Jz2 := Lib.hid jz2
  clear hq hn hi hz0 hz1 hz2 hq1 ji jz0 jz1 jz2
  go_enter Tryz.func31, Tryz.ntmps31
  go_wp2
  go_loopw [4] (fun i wr => ∃ (k : Nat) (o : Value) (os : List (Nat × Value × Value)), k ≤ qs.length ∧ i = .int .i64 k ∧ wr.heap[w.heap.size]? = some (.cells #[.slice qa qs.length qc, .int .i64 dp, .int .i64 lo] 29) ∧
    wr.heap[w.heap.size + 1]? = some (.cells #[.slice none 0 0, .int .i64 0, .int .i64 0] 29) ∧ wr.heap[w.heap.size + 1 + 1]? = some (.cells #[o, .int .i64 dp, .int .i64 lo] 29) ∧ AsksAt wr (w.heap.size + 3) o (qs.take k) os ∧ Below w.heap.size w wr) (fun i _ => qs.length - (intOf i).toNat)
  case atStart =>
    have B2 := below2 w (.cells #[.slice qa qs.length qc, .int .i64 dp, .int .i64 lo] 29) (.cells #[.slice none 0 0, .int .i64 0, .int .i64 0] 29)
    refine ⟨0, _, [], by omega, rfl, ?_, ?_, ?_, AsksAt.nil _ _, (by repeat (first | with_reducible exact Below.refl _ _ | with_reducible assumption | with_reducible refine Below.drew ?_ | with_reducible refine Below.alloc ?_ (by first | omega | (simp; done) | (simp; omega)) _ | with_reducible refine Below.setCell ?_ (by first | omega | (simp; done) | (simp; omega)) _))⟩
    · exact ((below2 (w.alloc _) _ _).block _ (by simp)).trans (heap_alloc_new w _)
    · refine ((below1 ((w.alloc _).alloc _) _).block _ (by simp)).trans ?_
      have := heap_alloc_new (w.alloc (.cells #[.slice qa qs.length qc, .int .i64 dp, .int .i64 lo] 29)) (.cells #[.slice none 0 0, .int .i64 0, .int .i64 0] 29)
      simpa using this
    · have := heap_alloc_new ((w.alloc (.cells #[.slice qa qs.length qc, .int .i64 dp, .int .i64 lo] 29)).alloc (.cells #[.slice none 0 0, .int .i64 0, .int .i64 0] 29)) (.cells #[.slice none 0 0, .int .i64 dp, .int .i64 lo] 29)
      simpa using this
  case round =>
    obtain ⟨k, o, os, hk, rfl, hh0, hh1, hh2, hA, hbel⟩ := hrel
    have hlk : (qs.take k).length = k := by rw [List.length_take]; omega
    obtain ⟨oa, oc, rfl⟩ := own_slice (show wr.ownsRow _ _ 3 o k _ by have := hA.own; rwa [hlk] at this)
    have h0 : wr.cell? ⟨w.heap.size, 0, none⟩ = some (.slice qa qs.length qc) := cell_of_row _ _ _ _ _ _ hh0
    have e0 : wr.cell? ⟨w.heap.size + 1 + 1, 0, none⟩ = some (.slice oa k oc) := cell_of_row _ _ _ _ _ _ hh2
    have e1 : wr.cell? ⟨w.heap.size + 1 + 1, 1, none⟩ = some (.int .i64 dp) := cell_of_row _ _ _ _ _ _ hh2
    have e2 : wr.cell? ⟨w.heap.size + 1 + 1, 2, none⟩ = some (.int .i64 lo) := cell_of_row _ _ _ _ _ _ hh2
    have f2 : ∀ j, wr.frozen? ⟨w.heap.size + 1 + 1, j, none⟩ = false := fun j => frozen_cells hh2 j
    have d0 : wr.cell? ⟨w.heap.size + 1, 0, none⟩ = some (.slice none 0 0) := cell_of_row _ _ _ _ _ _ hh1
    have d1 : wr.cell? ⟨w.heap.size + 1, 1, none⟩ = some (.int .i64 0) := cell_of_row _ _ _ _ _ _ hh1
    have d2 : wr.cell? ⟨w.heap.size + 1, 2, none⟩ = some (.int .i64 0) := cell_of_row _ _ _ _ _ _ hh1
    have fd : ∀ j, wr.frozen? ⟨w.heap.size + 1, j, none⟩ = false := fun j => frozen_cells hh1 j
    have z2 : w.heap.size + 1 + 1 < wr.heap.size := (Array.getElem?_eq_some_iff.1 hh2).1
    have z1 : w.heap.size + 1 < wr.heap.size := by omega
    have z0 : w.heap.size < wr.heap.size := by omega
    have HH0 := Lib.hid hh0; have HH1 := Lib.hid hh1; have HH2 := Lib.hid hh2; have HA := Lib.hid hA; have HBL := Lib.hid hbel
    by_cases hlt : k < qs.length
    · have q1 : (k:Int) < qs.length := by omega
      have q0 : 0 ≤ (k:Int) := by omega
      have hqm : k < (qs.map askI).length := by simpa using hlt
      obtain ⟨b2, o2, hqa, g2, _⟩ := HQ.out.1.at hqm
      obtain ⟨b2', o2', hqa', g2', hask⟩ := (HQ.out.mono hbel).1.at hqm
      rw [hqa] at hqa'
      simp only [Option.some.injEq, Addr.mk.injEq, and_true] at hqa'
      obtain ⟨rfl, rfl⟩ := hqa'
      subst hqa
      have hget : (qs.map askI).getD k a0 = askI qs[k] := by simp [List.getD_eq_getElem?_getD, hlt]
      rw [hget] at hask
      have hne := HN.out qs[k] (List.getElem_mem _)
      obtain ⟨a, haq⟩ : ∃ a, a = qs[k] := ⟨_, rfl⟩
      rw [← haq] at hask hne
      obtain ⟨ai, av, an⟩ := a
      obtain ⟨r0, ⟨va, vc, r1, r2⟩, ⟨na, nc, r3, r4⟩⟩ := hask
      simp only [askI] at r0 r1 r2 r3 r4 hne
      have han : 0 < an.length := List.length_pos_iff.2 hne
      obtain ⟨b7, o7, rfl, g7, _⟩ := r4.1.at han
      have han8 := r4.2.1
      have hav := r2.2.1
      obtain ⟨B3, hB3⟩ : ∃ B3, B3 = w.heap.size + 1 + 1 + 1 := ⟨_, rfl⟩
      have y0 : w.heap.size < B3 := by omega
      have y2 : w.heap.size + 1 + 1 < B3 := by omega
      have yb : b2 < B3 := by omega
      have yb2 : b2 ≠ w.heap.size + 1 + 1 := by omega
      have yb0 : w.heap.size ≠ w.heap.size + 1 + 1 := by omega
      have y3 : B3 ≤ wr.heap.size := by omega
      have hown := hA.own
      rw [hlk] at hown
      have hownB : wr.ownsRow B3 59 3 (.slice oa k oc) k (os.flatMap askC) := by rw [hB3]; exact hown
      have HOWN := Lib.hid hownB; have HR2 := Lib.hid r2; have HR4 := Lib.hid r4; have HAQ := Lib.hid haq; have HB3 := Lib.hid hB3; have HLT := Lib.hid hlt
      clear hh0 hh1 hh2 hA hbel hown hownB r2 r4 haq hB3 hlk hne hget hqm g2 g2'
      go_wp2
      refine wp_region_held_drew (S := (fun w' => ∀ b o, b < B3 → b ≠ w.heap.size + 1 + 1 → w'.cell? ⟨b, o, none⟩ = wr.cell? ⟨b, o, none⟩)) (by kernel_rfl) ?_ (fun hHeld => ?_)
      · (first | (refine fun b o hb _ => olds (Below.mono (B := wr.heap.size) ?_ y3) b o hb; (repeat (first | with_reducible exact Below.refl _ _ | with_reducible assumption | with_reducible refine Below.drew ?_ | with_reducible refine Below.alloc ?_ (by first | omega | (simp; done) | (simp; omega)) _ | with_reducible refine Below.setCell ?_ (by first | omega | (simp; done) | (simp; omega)) _)); done) | (refine fun b o hb _ => olds ?_ b o hb; (repeat (first | with_reducible exact Below.refl _ _ | with_reducible assumption | with_reducible refine Below.drew ?_ | with_reducible refine Below.alloc ?_ (by first | omega | (simp; done) | (simp; omega)) _ | with_reducible refine Below.setCell ?_ (by first | omega | (simp; done) | (simp; omega)) _)); done) | exact fun b o hb hne => (World.cell?_of_block (Below.heap_setCell _ _ _ _ hne)).trans (olds hb9 b o hb))
      refine wpAnyH_take (i := 0) (v := ?_) rfl (by kernel_rfl) (by kernel_rfl) (by kernel_rfl) (fun _ _ _ h => h) (Or.inl ⟨by rfl, ?_⟩) (by assumption) ?_
      rotate_left
      · intro w hSw; (try dsimp only [List.getElem_toArray, List.getElem_cons_succ, List.getElem_cons_zero] at hSw ⊢); go_simp; (try with_reducible rfl)
      (try dsimp only [List.getElem_toArray, List.getElem_cons_succ, List.getElem_cons_zero]); (try simp only [Act.put, List.setIfInBounds_toArray, List.set_cons_zero, List.set_cons_succ])
      refine wpAnyH_take (i := 2) (v := ?_) rfl (by kernel_rfl) (by kernel_rfl) (by kernel_rfl) (fun _ _ _ h => h) (Or.inl ⟨by rfl, ?_⟩) (by assumption) ?_
      rotate_left
      · intro w hSw; (try dsimp only [List.getElem_toArray, List.getElem_cons_succ, List.getElem_cons_zero] at hSw ⊢); go_simp; (try with_reducible rfl)
      (try dsimp only [List.getElem_toArray, List.getElem_cons_succ, List.getElem_cons_zero]); (try simp only [Act.put, List.setIfInBounds_toArray, List.set_cons_zero, List.set_cons_succ])
      refine wpAnyH_take (i := 3) (v := ?_) rfl (by kernel_rfl) (by kernel_rfl) (by kernel_rfl) (fun _ _ _ h => h) (Or.inl ⟨by rfl, ?_⟩) (by assumption) ?_
      rotate_left
      · intro w hSw; (try dsimp only [List.getElem_toArray, List.getElem_cons_succ, List.getElem_cons_zero] at hSw ⊢); go_simp; (try with_reducible rfl)
      (try dsimp only [List.getElem_toArray, List.getElem_cons_succ, List.getElem_cons_zero]); (try simp only [Act.put, List.setIfInBounds_toArray, List.set_cons_zero, List.set_cons_succ])
      refine wpAnyH_take (i := 4) (v := ?_) rfl (by kernel_rfl) (by kernel_rfl) (by kernel_rfl) (fun _ _ _ h => h) (Or.inl ⟨by rfl, ?_⟩) (by assumption) ?_
      rotate_left
      · intro w hSw; (try dsimp only [List.getElem_toArray, List.getElem_cons_succ, List.getElem_cons_zero] at hSw ⊢); go_simp; (try with_reducible rfl)
      (try dsimp only [List.getElem_toArray, List.getElem_cons_succ, List.getElem_cons_zero]); (try simp only [Act.put, List.setIfInBounds_toArray, List.set_cons_zero, List.set_cons_succ])
      refine wpAnyH_take (i := 5) (v := ?_) rfl (by kernel_rfl) (by kernel_rfl) (by kernel_rfl) (fun _ _ _ h => h) (Or.inl ⟨by rfl, ?_⟩) (by assumption) ?_
      rotate_left
      · intro w hSw; (try dsimp only [List.getElem_toArray, List.getElem_cons_succ, List.getElem_cons_zero] at hSw ⊢); go_simp; (try with_reducible rfl)
      (try dsimp only [List.getElem_toArray, List.getElem_cons_succ, List.getElem_cons_zero]); (try simp only [Act.put, List.setIfInBounds_toArray, List.set_cons_zero, List.set_cons_succ])
      refine wpAnyH_take (i := 6) (v := ?_) rfl (by kernel_rfl) (by kernel_rfl) (by kernel_rfl) (fun _ _ _ h => h) (Or.inl ⟨by rfl, ?_⟩) (by assumption) ?_
      rotate_left
      · intro w hSw; (try dsimp only [List.getElem_toArray, List.getElem_cons_succ, List.getElem_cons_zero] at hSw ⊢); go_simp; (try with_reducible rfl)
      (try dsimp only [List.getElem_toArray, List.getElem_cons_succ, List.getElem_cons_zero]); (try simp only [Act.put, List.setIfInBounds_toArray, List.set_cons_zero, List.set_cons_succ])
      refine wpAnyH_take (i := 7) (v := ?_) rfl (by kernel_rfl) (by kernel_rfl) (by kernel_rfl) (fun _ _ _ h => h) (Or.inl ⟨by rfl, ?_⟩) (by assumption) ?_
      rotate_left
      · intro w hSw; (try dsimp only [List.getElem_toArray, List.getElem_cons_succ, List.getElem_cons_zero] at hSw ⊢); go_simp; (try with_reducible rfl)
      (try dsimp only [List.getElem_toArray, List.getElem_cons_succ, List.getElem_cons_zero]); (try simp only [Act.put, List.setIfInBounds_toArray, List.set_cons_zero, List.set_cons_succ])
      refine wpAnyH_take (i := 8) (v := ?_) rfl (by kernel_rfl) (by kernel_rfl) (by kernel_rfl) (fun _ _ _ h => h) (Or.inl ⟨by rfl, ?_⟩) (by assumption) ?_
      rotate_left
      · intro w hSw; (try dsimp only [List.getElem_toArray, List.getElem_cons_succ, List.getElem_cons_zero] at hSw ⊢); go_simp; (try with_reducible rfl)
      (try dsimp only [List.getElem_toArray, List.getElem_cons_succ, List.getElem_cons_zero]); (try simp only [Act.put, List.setIfInBounds_toArray, List.set_cons_zero, List.set_cons_succ])
      refine wpAnyH_take (i := 9) (v := ?_) rfl (by kernel_rfl) (by kernel_rfl) (by kernel_rfl) (fun _ _ _ h => h) (Or.inl ⟨by rfl, ?_⟩) (by assumption) ?_
      rotate_left
      · intro w hSw; (try dsimp only [List.getElem_toArray, List.getElem_cons_succ, List.getElem_cons_zero] at hSw ⊢); go_simp; (try with_reducible rfl)
      (try dsimp only [List.getElem_toArray, List.getElem_cons_succ, List.getElem_cons_zero]); (try simp only [Act.put, List.setIfInBounds_toArray, List.set_cons_zero, List.set_cons_succ])
      refine wpAnyH_take (i := 10) (v := ?_) rfl (by kernel_rfl) (by kernel_rfl) (by kernel_rfl) (fun _ _ _ h => h) (Or.inl ⟨by rfl, ?_⟩) (by assumption) ?_
      rotate_left
      · intro w hSw; (try dsimp only [List.getElem_toArray, List.getElem_cons_succ, List.getElem_cons_zero] at hSw ⊢); go_simp; (try with_reducible rfl)
      (try dsimp only [List.getElem_toArray, List.getElem_cons_succ, List.getElem_cons_zero]); (try simp only [Act.put, List.setIfInBounds_toArray, List.set_cons_zero, List.set_cons_succ])
      refine wpAnyH_take (i := 11) (v := ?_) rfl (by kernel_rfl) (by kernel_rfl) (by kernel_rfl) (fun _ _ _ h => h) (Or.inl ⟨by rfl, ?_⟩) (by assumption) ?_
      rotate_left
      · intro w hSw; (try dsimp only [List.getElem_toArray, List.getElem_cons_succ, List.getElem_cons_zero] at hSw ⊢); go_simp; (try with_reducible rfl)
      (try dsimp only [List.getElem_toArray, List.getElem_cons_succ, List.getElem_cons_zero]); (try simp only [Act.put, List.setIfInBounds_toArray, List.set_cons_zero, List.set_cons_succ])
      refine wpAnyH_take (i := 12) (v := ?_) rfl (by kernel_rfl) (by kernel_rfl) (by kernel_rfl) (fun _ _ _ h => h) (Or.inl ⟨by rfl, ?_⟩) (by assumption) ?_
      rotate_left
      · intro w hSw; (try dsimp only [List.getElem_toArray, List.getElem_cons_succ, List.getElem_cons_zero] at hSw ⊢); go_simp; (try with_reducible rfl)
      (try dsimp only [List.getElem_toArray, List.getElem_cons_succ, List.getElem_cons_zero]); (try simp only [Act.put, List.setIfInBounds_toArray, List.set_cons_zero, List.set_cons_succ])
      refine wpAnyH_take (i := 13) (v := ?_) rfl (by kernel_rfl) (by kernel_rfl) (by kernel_rfl) (fun _ _ _ h => h) (Or.inl ⟨by rfl, ?_⟩) (by assumption) ?_
      rotate_left
      · intro w hSw; (try dsimp only [List.getElem_toArray, List.getElem_cons_succ, List.getElem_cons_zero] at hSw ⊢); go_simp; (try with_reducible rfl)
      (try dsimp only [List.getElem_toArray, List.getElem_cons_succ, List.getElem_cons_zero]); (try simp only [Act.put, List.setIfInBounds_toArray, List.set_cons_zero, List.set_cons_succ])
      refine wpAnyH_take (i := 16) (v := ?_) rfl (by kernel_rfl) (by kernel_rfl) (by kernel_rfl) (fun _ _ _ h => h) (Or.inl ⟨by rfl, ?_⟩) (by assumption) ?_
      rotate_left
      · intro w hSw; (try dsimp only [List.getElem_toArray, List.getElem_cons_succ, List.getElem_cons_zero] at hSw ⊢); go_simp; (try with_reducible rfl)
      (try dsimp only [List.getElem_toArray, List.getElem_cons_succ, List.getElem_cons_zero]); (try simp only [Act.put, List.setIfInBounds_toArray, List.set_cons_zero, List.set_cons_succ])
      refine wpAnyH_take (i := 17) (v := ?_) rfl (by kernel_rfl) (by kernel_rfl) (by kernel_rfl) (fun _ _ _ h => h) (Or.inl ⟨by rfl, ?_⟩) (by assumption) ?_
      rotate_left
      · intro w hSw; (try dsimp only [List.getElem_toArray, List.getElem_cons_succ, List.getElem_cons_zero] at hSw ⊢); go_simp; (try with_reducible rfl)
      (try dsimp only [List.getElem_toArray, List.getElem_cons_succ, List.getElem_cons_zero]); (try simp only [Act.put, List.setIfInBounds_toArray, List.set_cons_zero, List.set_cons_succ])
      refine wpAnyH_take (i := 18) (v := ?_) rfl (by kernel_rfl) (by kernel_rfl) (by kernel_rfl) (fun _ _ _ h => h) (Or.inl ⟨by rfl, ?_⟩) (by assumption) ?_
      rotate_left
      · intro w hSw; (try dsimp only [List.getElem_toArray, List.getElem_cons_succ, List.getElem_cons_zero] at hSw ⊢); go_simp; (try with_reducible rfl)
      (try dsimp only [List.getElem_toArray, List.getElem_cons_succ, List.getElem_cons_zero]); (try simp only [Act.put, List.setIfInBounds_toArray, List.set_cons_zero, List.set_cons_succ])
      refine wpAnyH_take (i := 19) (v := ?_) rfl (by kernel_rfl) (by kernel_rfl) (by kernel_rfl) (fun _ _ _ h => h) (Or.inl ⟨by rfl, ?_⟩) (by assumption) ?_
      rotate_left
      · intro w hSw; (try dsimp only [List.getElem_toArray, List.getElem_cons_succ, List.getElem_cons_zero] at hSw ⊢); go_simp; (try with_reducible rfl)
      (try dsimp only [List.getElem_toArray, List.getElem_cons_succ, List.getElem_cons_zero]); (try simp only [Act.put, List.setIfInBounds_toArray, List.set_cons_zero, List.set_cons_succ])
      refine wpAnyH_take (i := 20) (v := ?_) rfl (by kernel_rfl) (by kernel_rfl) (by kernel_rfl) (fun _ _ _ h => h) (Or.inl ⟨by rfl, ?_⟩) (by assumption) ?_
      rotate_left
      · intro w hSw; (try dsimp only [List.getElem_toArray, List.getElem_cons_succ, List.getElem_cons_zero] at hSw ⊢); go_simp; (try with_reducible rfl)
      (try dsimp only [List.getElem_toArray, List.getElem_cons_succ, List.getElem_cons_zero]); (try simp only [Act.put, List.setIfInBounds_toArray, List.set_cons_zero, List.set_cons_succ])
      refine wpAnyH_take (i := 21) (v := ?_) rfl (by kernel_rfl) (by kernel_rfl) (by kernel_rfl) (fun _ _ _ h => h) (Or.inl ⟨by rfl, ?_⟩) (by assumption) ?_
      rotate_left
      · intro w hSw; (try dsimp only [List.getElem_toArray, List.getElem_cons_succ, List.getElem_cons_zero] at hSw ⊢); go_simp; (try with_reducible rfl)
      (try dsimp only [List.getElem_toArray, List.getElem_cons_succ, List.getElem_cons_zero]); (try simp only [Act.put, List.setIfInBounds_toArray, List.set_cons_zero, List.set_cons_succ])
      refine wpAnyH_ready (rs := [1, 14, 15]) (by kernel_rfl) (by simp) ?_
      refine AllReadyH.cons rfl (fun K hK => ?_) ?_
      · go_simp
        clear hHeld
        refine hK.out _ _ ?_ (fun hHeld => ?_)
        · (first | (refine fun b o hb _ => olds (Below.mono (B := wr.heap.size) ?_ y3) b o hb; (repeat (first | with_reducible exact Below.refl _ _ | with_reducible assumption | with_reducible refine Below.drew ?_ | with_reducible refine Below.alloc ?_ (by first | omega | (simp; done) | (simp; omega)) _ | with_reducible refine Below.setCell ?_ (by first | omega | (simp; done) | (simp; omega)) _)); done) | (refine fun b o hb _ => olds ?_ b o hb; (repeat (first | with_reducible exact Below.refl _ _ | with_reducible assumption | with_reducible refine Below.drew ?_ | with_reducible refine Below.alloc ?_ (by first | omega | (simp; done) | (simp; omega)) _ | with_reducible refine Below.setCell ?_ (by first | omega | (simp; done) | (simp; omega)) _)); done) | exact fun b o hb hne => (World.cell?_of_block (Below.heap_setCell _ _ _ _ hne)).trans (olds hb9 b o hb))
        clear hK K
        refine wpAnyH_ready (rs := [14, 15]) (by kernel_rfl) (by simp) ?_
        refine AllReadyH.cons rfl (fun K hK => ?_) ?_
        · go_simp; go_at_call 63; refine (copyRow _ _ av (HR2.out.mono (by repeat (first | with_reducible exact Below.refl _ _ | with_reducible assumption | with_reducible refine Below.drew ?_ | with_reducible refine Below.alloc ?_ (by first | omega | (simp; done) | (simp; omega)) _ | with_reducible refine Below.setCell ?_ (by first | omega | (simp; done) | (simp; omega)) _)))).mono ?_; rintro e w1 ⟨v1, zs1, rfl, hz1', ho1, hb1'⟩; have hb1 : Below wr.heap.size wr w1 := bthen (a := wr) (by repeat (first | with_reducible exact Below.refl _ _ | with_reducible assumption | with_reducible refine Below.drew ?_ | with_reducible refine Below.alloc ?_ (by first | omega | (simp; done) | (simp; omega)) _ | with_reducible refine Below.setCell ?_ (by first | omega | (simp; done) | (simp; omega)) _)) hb1'; obtain ⟨ra, rc, rfl⟩ := own_slice ho1; have hz1 := hb1.size; have e1_ : w1.cell? ⟨w.heap.size + 1 + 1, 0, none⟩ = some (.slice oa k oc) := (olds hb1 _ _ z2).trans e0; have zt1 : w.heap.size + 1 + 1 < w1.heap.size := Nat.lt_of_lt_of_le z2 hz1; dsimp only
          clear hHeld
          refine hK.out _ _ ?_ (fun hHeld => ?_)
          · (first | (refine fun b o hb _ => olds (Below.mono (B := wr.heap.size) ?_ y3) b o hb; (repeat (first | with_reducible exact Below.refl _ _ | with_reducible assumption | with_reducible refine Below.drew ?_ | with_reducible refine Below.alloc ?_ (by first | omega | (simp; done) | (simp; omega)) _ | with_reducible refine Below.setCell ?_ (by first | omega | (simp; done) | (simp; omega)) _)); done) | (refine fun b o hb _ => olds ?_ b o hb; (repeat (first | with_reducible exact Below.refl _ _ | with_reducible assumption | with_reducible refine Below.drew ?_ | with_reducible refine Below.alloc ?_ (by first | omega | (simp; done) | (simp; omega)) _ | with_reducible refine Below.setCell ?_ (by first | omega | (simp; done) | (simp; omega)) _)); done) | exact fun b o hb hne => (World.cell?_of_block (Below.heap_setCell _ _ _ _ hne)).trans (olds hb9 b o hb))
          clear hK K
          refine wpAnyH_ready (rs := [15]) (by kernel_rfl) (by simp) ?_
          refine AllReadyH.cons rfl (fun K hK => ?_) ?_
          · go_simp
            clear hHeld
            refine hK.out _ _ ?_ (fun hHeld => ?_)
            · (first | (refine fun b o hb _ => olds (Below.mono (B := wr.heap.size) ?_ y3) b o hb; (repeat (first | with_reducible exact Below.refl _ _ | with_reducible assumption | with_reducible refine Below.drew ?_ | with_reducible refine Below.alloc ?_ (by first | omega | (simp; done) | (simp; omega)) _ | with_reducible refine Below.setCell ?_ (by first | omega | (simp; done) | (simp; omega)) _)); done) | (refine fun b o hb _ => olds ?_ b o hb; (repeat (first | with_reducible exact Below.refl _ _ | with_reducible assumption | with_reducible refine Below.drew ?_ | with_reducible refine Below.alloc ?_ (by first | omega | (simp; done) | (simp; omega)) _ | with_reducible refine Below.setCell ?_ (by first | omega | (simp; done) | (simp; omega)) _)); done) | exact fun b o hb hne => (World.cell?_of_block (Below.heap_setCell _ _ _ _ hne)).trans (olds hb9 b o hb))
            clear hK K
            refine wpAnyH_ready (rs := [22]) (by kernel_rfl) (by simp) ?_
            refine AllReadyH.cons rfl (fun K hK => ?_) ?_
            · refine step_append_lies _ (by rfl) _ _ _ (by rfl) wr.heap.size 3 i0 _ 1 8 und_ints Hi.out Hz0.out Hz1.out Hz2.out rfl (by decide) _ 0 [] (by rfl) (by first | exact own_new w1 wr.heap.size 3 1 0 [] (by first | omega | (simp; done) | (simp; omega)) rfl (by unfold maxLen; omega) | exact own_new wr.drew wr.heap.size 3 1 0 [] (by first | omega | (simp; done) | (simp; omega)) rfl (by unfold maxLen; omega) | exact own_below (own_new wr.drew wr.heap.size 3 1 0 [] (by first | omega | (simp; done) | (simp; omega)) rfl (by unfold maxLen; omega)) hb1') ⟨b7, o7, none⟩ an.length nc (ci an) (by rfl) (by simp [ci]) (ints_news (HR4.out.mono (by repeat (first | with_reducible exact Below.refl _ _ | with_reducible assumption | with_reducible refine Below.drew ?_ | with_reducible refine Below.alloc ?_ (by first | omega | (simp; done) | (simp; omega)) _ | with_reducible refine Below.setCell ?_ (by first | omega | (simp; done) | (simp; omega)) _)))) (ci_one an) han (by unfold maxLen; omega) (by omega) (by first | omega | (simp; done) | (simp; omega)) _ rfl ?_; intro g4 cap4 w4 hown4 hgr4 hat4 hgl4; have hb4 : Below wr.heap.size wr w4 := Below.grown (by repeat (first | with_reducible exact Below.refl _ _ | with_reducible assumption | with_reducible refine Below.drew ?_ | with_reducible refine Below.alloc ?_ (by first | omega | (simp; done) | (simp; omega)) _ | with_reducible refine Below.setCell ?_ (by first | omega | (simp; done) | (simp; omega)) _)) hgr4 (by first | omega | (simp; done) | (simp; omega)) (fun g hg => by cases hg; first | omega | (simp; done)); have hz4 := hb4.size; have e4_ : w4.cell? ⟨w.heap.size + 1 + 1, 0, none⟩ = some (.slice oa k oc) := (olds hb4 _ _ z2).trans e0; have zt4 : w.heap.size + 1 + 1 < w4.heap.size := Nat.lt_of_lt_of_le z2 hz4
              clear hHeld
              refine hK.out _ _ ?_ (fun hHeld => ?_)
              · (first | (refine fun b o hb _ => olds (Below.mono (B := wr.heap.size) ?_ y3) b o hb; (repeat (first | with_reducible exact Below.refl _ _ | with_reducible assumption | with_reducible refine Below.drew ?_ | with_reducible refine Below.alloc ?_ (by first | omega | (simp; done) | (simp; omega)) _ | with_reducible refine Below.setCell ?_ (by first | omega | (simp; done) | (simp; omega)) _)); done) | (refine fun b o hb _ => olds ?_ b o hb; (repeat (first | with_reducible exact Below.refl _ _ | with_reducible assumption | with_reducible refine Below.drew ?_ | with_reducible refine Below.alloc ?_ (by first | omega | (simp; done) | (simp; omega)) _ | with_reducible refine Below.setCell ?_ (by first | omega | (simp; done) | (simp; omega)) _)); done) | exact fun b o hb hne => (World.cell?_of_block (Below.heap_setCell _ _ _ _ hne)).trans (olds hb9 b o hb))
              clear hK K
              refine wpAnyH_take (i := 23) (v := ?_) rfl (by kernel_rfl) (by kernel_rfl) (by kernel_rfl) (fun _ _ _ h => h) (Or.inl ⟨by rfl, ?_⟩) (by assumption) ?_
              rotate_left
              · intro w hSw; (try dsimp only [List.getElem_toArray, List.getElem_cons_succ, List.getElem_cons_zero] at hSw ⊢); go_simp; (try with_reducible rfl)
              (try dsimp only [List.getElem_toArray, List.getElem_cons_succ, List.getElem_cons_zero]); (try simp only [Act.put, List.setIfInBounds_toArray, List.set_cons_zero, List.set_cons_succ])
              refine wpAnyH_ready (rs := [24]) (by kernel_rfl) (by simp) ?_
              refine AllReadyH.cons rfl (fun K hK => ?_) ?_
              · go_simp
                clear hHeld
                refine hK.out _ _ ?_ (fun hHeld => ?_)
                · (first | (refine fun b o hb _ => olds (Below.mono (B := wr.heap.size) ?_ y3) b o hb; (repeat (first | with_reducible exact Below.refl _ _ | with_reducible assumption | with_reducible refine Below.drew ?_ | with_reducible refine Below.alloc ?_ (by first | omega | (simp; done) | (simp; omega)) _ | with_reducible refine Below.setCell ?_ (by first | omega | (simp; done) | (simp; omega)) _)); done) | (refine fun b o hb _ => olds ?_ b o hb; (repeat (first | with_reducible exact Below.refl _ _ | with_reducible assumption | with_reducible refine Below.drew ?_ | with_reducible refine Below.alloc ?_ (by first | omega | (simp; done) | (simp; omega)) _ | with_reducible refine Below.setCell ?_ (by first | omega | (simp; done) | (simp; omega)) _)); done) | exact fun b o hb hne => (World.cell?_of_block (Below.heap_setCell _ _ _ _ hne)).trans (olds hb9 b o hb))
                clear hK K
                refine wpAnyH_ready (rs := [25]) (by kernel_rfl) (by simp) ?_
                refine AllReadyH.cons rfl (fun K hK => ?_) ?_
                · refine step_append_lies _ (by rfl) _ _ _ (by rfl) B3 59 j0 _ 3 56 und_asks Ji.out Jz0.out Jz1.out Jz2.out rfl (by decide) _ k (os.flatMap askC) (by rfl) (own_below HOWN.out (by repeat (first | with_reducible exact Below.refl _ _ | with_reducible assumption | with_reducible refine Below.drew ?_ | with_reducible refine Below.alloc ?_ (by first | omega | (simp; done) | (simp; omega)) _ | with_reducible refine Below.setCell ?_ (by first | omega | (simp; done) | (simp; omega)) _))) ⟨_, 0, none⟩ 1 1 (askC (ai, .slice ra av.length rc, .slice (some ⟨g4, 0, none⟩) an.length cap4)) (by rfl) rfl (One.cells (heap_alloc_new _ _)) (by intro u hu; simp [askC] at hu; rcases hu with rfl | rfl | rfl <;> rfl) (by decide) (by unfold maxLen; omega) (by omega) (by first | omega | (simp; done) | (simp; omega)) _ rfl ?_; intro g9 cap9 w9 hown9 hgr9 hat9 hgl9; have hb9 : Below B3 wr w9 := Below.grown (Below.mono (by repeat (first | with_reducible exact Below.refl _ _ | with_reducible assumption | with_reducible refine Below.drew ?_ | with_reducible refine Below.alloc ?_ (by first | omega | (simp; done) | (simp; omega)) _ | with_reducible refine Below.setCell ?_ (by first | omega | (simp; done) | (simp; omega)) _)) y3) hgr9 (by first | omega | (simp; done) | (simp; omega)) (fun g hg => (HOWN.out.lt g hg).1); have e9 : w9.cell? ⟨w.heap.size + 1 + 1, 0, none⟩ = some (.slice oa k oc) := (olds hb9 _ _ y2).trans e0; have f9 : w9.frozen? ⟨w.heap.size + 1 + 1, 0, none⟩ = false := (oldf hb9 _ _ y2).trans (f2 0)
                  clear hHeld
                  refine hK.out _ _ ?_ (fun hHeld => ?_)
                  · (first | (refine fun b o hb _ => olds (Below.mono (B := wr.heap.size) ?_ y3) b o hb; (repeat (first | with_reducible exact Below.refl _ _ | with_reducible assumption | with_reducible refine Below.drew ?_ | with_reducible refine Below.alloc ?_ (by first | omega | (simp; done) | (simp; omega)) _ | with_reducible refine Below.setCell ?_ (by first | omega | (simp; done) | (simp; omega)) _)); done) | (refine fun b o hb _ => olds ?_ b o hb; (repeat (first | with_reducible exact Below.refl _ _ | with_reducible assumption | with_reducible refine Below.drew ?_ | with_reducible refine Below.alloc ?_ (by first | omega | (simp; done) | (simp; omega)) _ | with_reducible refine Below.setCell ?_ (by first | omega | (simp; done) | (simp; omega)) _)); done) | exact fun b o hb hne => (World.cell?_of_block (Below.heap_setCell _ _ _ _ hne)).trans (olds hb9 b o hb))
                  clear hK K
                  refine wpAnyH_take (i := 26) (v := ?_) rfl (by kernel_rfl) (by kernel_rfl) (by kernel_rfl) (fun _ _ _ h => h) (Or.inl ⟨by rfl, ?_⟩) (by assumption) ?_
                  rotate_left
                  · intro w hSw; (try dsimp only [List.getElem_toArray, List.getElem_cons_succ, List.getElem_cons_zero] at hSw ⊢); go_simp; (try with_reducible rfl)
                  (try dsimp only [List.getElem_toArray, List.getElem_cons_succ, List.getElem_cons_zero]); (try simp only [Act.put, List.setIfInBounds_toArray, List.set_cons_zero, List.set_cons_succ])
                  refine wpAnyH_ready (rs := [27]) (by kernel_rfl) (by simp) ?_
                  refine AllReadyH.cons rfl (fun K hK => ?_) ?_
                  · go_simp
                    clear hHeld
                    refine hK.out _ _ ?_ (fun hHeld => ?_)
                    · (first | (refine fun b o hb _ => olds (Below.mono (B := wr.heap.size) ?_ y3) b o hb; (repeat (first | with_reducible exact Below.refl _ _ | with_reducible assumption | with_reducible refine Below.drew ?_ | with_reducible refine Below.alloc ?_ (by first | omega | (simp; done) | (simp; omega)) _ | with_reducible refine Below.setCell ?_ (by first | omega | (simp; done) | (simp; omega)) _)); done) | (refine fun b o hb _ => olds ?_ b o hb; (repeat (first | with_reducible exact Below.refl _ _ | with_reducible assumption | with_reducible refine Below.drew ?_ | with_reducible refine Below.alloc ?_ (by first | omega | (simp; done) | (simp; omega)) _ | with_reducible refine Below.setCell ?_ (by first | omega | (simp; done) | (simp; omega)) _)); done) | exact fun b o hb hne => (World.cell?_of_block (Below.heap_setCell _ _ _ _ hne)).trans (olds hb9 b o hb))
                    clear hK K
                    refine wpAnyH_done (by kernel_rfl) ?_ _
                    rw [Nat.zero_add] at hown4
                    have hlk : (qs.take k).length = k := by rw [List.length_take]; have := HLT.out; omega
                    have hAB : AsksAt wr B3 (.slice oa k oc) (qs.take k) os := by rw [HB3.out]; exact HA.out
                    have hA9 : AsksAt w9 B3 (.slice (some ⟨g9, 0, none⟩) (k + 1) cap9) (qs.take k ++ [(ai, av, an)]) (os ++ [(ai, .slice ra av.length rc, .slice (some ⟨g4, 0, none⟩) an.length cap4)]) := by
                      first
                        | refine AsksAt.round (a := (ai, av, an)) hAB hb4 hz1' (own_keptA ho1 hgr4) hown4 y3 ?_ (Nat.le_refl _) hgr9 hlk hown9
                        | refine AsksAt.round (a := (ai, av, an)) hAB hb4 hz1' (own_keptB ho1 hgr4) hown4 y3 ?_ (Nat.le_refl _) hgr9 hlk hown9
                        | refine AsksAt.round (a := (ai, av, an)) hAB hb1 hz1' ho1 (own_below hown4 hb1') y3 ?_ (Nat.le_refl _) hgr9 hlk hown9
                      first | exact Nat.le_refl _ | exact hz4 | simp
                    have hp := HB9.mk w.heap.size hb9 y0 y2 HB3.out HH0.out HH1.out HH2.out hA9 HBL.out
                    clear hA9 hAB hlk hown4 hown9 hgr4 hgr9 ho1 hb1 hb1' hb4 hb9 hat4 hat9
                    go_wp2
                    exact ⟨⟨k + 1, _, _, by have := HLT.out; omega, by go_num, hp.1, hp.2.1, hp.2.2.1, (by rw [HAQ.out, ← List.take_succ_eq_append_getElem HLT.out] at hp; exact hp.2.2.2.1), hp.2.2.2.2⟩, by have := HLT.out; simp [intOf]; omega⟩
                  exact AllReadyH.nil
                exact AllReadyH.nil
              exact AllReadyH.nil
            exact AllReadyH.nil
          exact AllReadyH.nil
        refine AllReadyH.cons rfl (fun K hK => ?_) ?_
        · go_simp
          clear hHeld
          refine hK.out _ _ ?_ (fun hHeld => ?_)
          · (first | (refine fun b o hb _ => olds (Below.mono (B := wr.heap.size) ?_ y3) b o hb; (repeat (first | with_reducible exact Below.refl _ _ | with_reducible assumption | with_reducible refine Below.drew ?_ | with_reducible refine Below.alloc ?_ (by first | omega | (simp; done) | (simp; omega)) _ | with_reducible refine Below.setCell ?_ (by first | omega | (simp; done) | (simp; omega)) _)); done) | (refine fun b o hb _ => olds ?_ b o hb; (repeat (first | with_reducible exact Below.refl _ _ | with_reducible assumption | with_reducible refine Below.drew ?_ | with_reducible refine Below.alloc ?_ (by first | omega | (simp; done) | (simp; omega)) _ | with_reducible refine Below.setCell ?_ (by first | omega | (simp; done) | (simp; omega)) _)); done) | exact fun b o hb hne => (World.cell?_of_block (Below.heap_setCell _ _ _ _ hne)).trans (olds hb9 b o hb))
          clear hK K
          refine wpAnyH_ready (rs := [14]) (by kernel_rfl) (by simp) ?_
          refine AllReadyH.cons rfl (fun K hK => ?_) ?_
          · go_simp; go_at_call 63; refine (copyRow _ _ av (HR2.out.mono (by repeat (first | with_reducible exact Below.refl _ _ | with_reducible assumption | with_reducible refine Below.drew ?_ | with_reducible refine Below.alloc ?_ (by first | omega | (simp; done) | (simp; omega)) _ | with_reducible refine Below.setCell ?_ (by first | omega | (simp; done) | (simp; omega)) _)))).mono ?_; rintro e w1 ⟨v1, zs1, rfl, hz1', ho1, hb1'⟩; have hb1 : Below wr.heap.size wr w1 := bthen (a := wr) (by repeat (first | with_reducible exact Below.refl _ _ | with_reducible assumption | with_reducible refine Below.drew ?_ | with_reducible refine Below.alloc ?_ (by first | omega | (simp; done) | (simp; omega)) _ | with_reducible refine Below.setCell ?_ (by first | omega | (simp; done) | (simp; omega)) _)) hb1'; obtain ⟨ra, rc, rfl⟩ := own_slice ho1; have hz1 := hb1.size; have e1_ : w1.cell? ⟨w.heap.size + 1 + 1, 0, none⟩ = some (.slice oa k oc) := (olds hb1 _ _ z2).trans e0; have zt1 : w.heap.size + 1 + 1 < w1.heap.size := Nat.lt_of_lt_of_le z2 hz1; dsimp only
            clear hHeld
            refine hK.out _ _ ?_ (fun hHeld => ?_)
            · (first | (refine fun b o hb _ => olds (Below.mono (B := wr.heap.size) ?_ y3) b o hb; (repeat (first | with_reducible exact Below.refl _ _ | with_reducible assumption | with_reducible refine Below.drew ?_ | with_reducible refine Below.alloc ?_ (by first | omega | (simp; done) | (simp; omega)) _ | with_reducible refine Below.setCell ?_ (by first | omega | (simp; done) | (simp; omega)) _)); done) | (refine fun b o hb _ => olds ?_ b o hb; (repeat (first | with_reducible exact Below.refl _ _ | with_reducible assumption | with_reducible refine Below.drew ?_ | with_reducible refine Below.alloc ?_ (by first | omega | (simp; done) | (simp; omega)) _ | with_reducible refine Below.setCell ?_ (by first | omega | (simp; done) | (simp; omega)) _)); done) | exact fun b o hb hne => (World.cell?_of_block (Below.heap_setCell _ _ _ _ hne)).trans (olds hb9 b o hb))
            clear hK K
            refine wpAnyH_ready (rs := [22]) (by kernel_rfl) (by simp) ?_
            refine AllReadyH.cons rfl (fun K hK => ?_) ?_
            · refine step_append_lies _ (by rfl) _ _ _ (by rfl) wr.heap.size 3 i0 _ 1 8 und_ints Hi.out Hz0.out Hz1.out Hz2.out rfl (by decide) _ 0 [] (by rfl) (by first | exact own_new w1 wr.heap.size 3 1 0 [] (by first | omega | (simp; done) | (simp; omega)) rfl (by unfold maxLen; omega) | exact own_new wr.drew wr.heap.size 3 1 0 [] (by first | omega | (simp; done) | (simp; omega)) rfl (by unfold maxLen; omega) | exact own_below (own_new wr.drew wr.heap.size 3 1 0 [] (by first | omega | (simp; done) | (simp; omega)) rfl (by unfold maxLen; omega)) hb1') ⟨b7, o7, none⟩ an.length nc (ci an) (by rfl) (by simp [ci]) (ints_news (HR4.out.mono (by repeat (first | with_reducible exact Below.refl _ _ | with_reducible assumption | with_reducible refine Below.drew ?_ | with_reducible refine Below.alloc ?_ (by first | omega | (simp; done) | (simp; omega)) _ | with_reducible refine Below.setCell ?_ (by first | omega | (simp; done) | (simp; omega)) _)))) (ci_one an) han (by unfold maxLen; omega) (by omega) (by first | omega | (simp; done) | (simp; omega)) _ rfl ?_; intro g4 cap4 w4 hown4 hgr4 hat4 hgl4; have hb4 : Below wr.heap.size wr w4 := Below.grown (by repeat (first | with_reducible exact Below.refl _ _ | with_reducible assumption | with_reducible refine Below.drew ?_ | with_reducible refine Below.alloc ?_ (by first | omega | (simp; done) | (simp; omega)) _ | with_reducible refine Below.setCell ?_ (by first | omega | (simp; done) | (simp; omega)) _)) hgr4 (by first | omega | (simp; done) | (simp; omega)) (fun g hg => by cases hg; first | omega | (simp; done)); have hz4 := hb4.size; have e4_ : w4.cell? ⟨w.heap.size + 1 + 1, 0, none⟩ = some (.slice oa k oc) := (olds hb4 _ _ z2).trans e0; have zt4 : w.heap.size + 1 + 1 < w4.heap.size := Nat.lt_of_lt_of_le z2 hz4
              clear hHeld
              refine hK.out _ _ ?_ (fun hHeld => ?_)
              · (first | (refine fun b o hb _ => olds (Below.mono (B := wr.heap.size) ?_ y3) b o hb; (repeat (first | with_reducible exact Below.refl _ _ | with_reducible assumption | with_reducible refine Below.drew ?_ | with_reducible refine Below.alloc ?_ (by first | omega | (simp; done) | (simp; omega)) _ | with_reducible refine Below.setCell ?_ (by first | omega | (simp; done) | (simp; omega)) _)); done) | (refine fun b o hb _ => olds ?_ b o hb; (repeat (first | with_reducible exact Below.refl _ _ | with_reducible assumption | with_reducible refine Below.drew ?_ | with_reducible refine Below.alloc ?_ (by first | omega | (simp; done) | (simp; omega)) _ | with_reducible refine Below.setCell ?_ (by first | omega | (simp; done) | (simp; omega)) _)); done) | exact fun b o hb hne => (World.cell?_of_block (Below.heap_setCell _ _ _ _ hne)).trans (olds hb9 b o hb))
              clear hK K
              refine wpAnyH_take (i := 23) (v := ?_) rfl (by kernel_rfl) (by kernel_rfl) (by kernel_rfl) (fun _ _ _ h => h) (Or.inl ⟨by rfl, ?_⟩) (by assumption) ?_
              rotate_left
              · intro w hSw; (try dsimp only [List.getElem_toArray, List.getElem_cons_succ, List.getElem_cons_zero] at hSw ⊢); go_simp; (try with_reducible rfl)
              (try dsimp only [List.getElem_toArray, List.getElem_cons_succ, List.getElem_cons_zero]); (try simp only [Act.put, List.setIfInBounds_toArray, List.set_cons_zero, List.set_cons_succ])
              refine wpAnyH_ready (rs := [24]) (by kernel_rfl) (by simp) ?_
              refine AllReadyH.cons rfl (fun K hK => ?_) ?_
              · go_simp
                clear hHeld
                refine hK.out _ _ ?_ (fun hHeld => ?_)
                · (first | (refine fun b o hb _ => olds (Below.mono (B := wr.heap.size) ?_ y3) b o hb; (repeat (first | with_reducible exact Below.refl _ _ | with_reducible assumption | with_reducible refine Below.drew ?_ | with_reducible refine Below.alloc ?_ (by first | omega | (simp; done) | (simp; omega)) _ | with_reducible refine Below.setCell ?_ (by first | omega | (simp; done) | (simp; omega)) _)); done) | (refine fun b o hb _ => olds ?_ b o hb; (repeat (first | with_reducible exact Below.refl _ _ | with_reducible assumption | with_reducible refine Below.drew ?_ | with_reducible refine Below.alloc ?_ (by first | omega | (simp; done) | (simp; omega)) _ | with_reducible refine Below.setCell ?_ (by first | omega | (simp; done) | (simp; omega)) _)); done) | exact fun b o hb hne => (World.cell?_of_block (Below.heap_setCell _ _ _ _ hne)).trans (olds hb9 b o hb))
                clear hK K
                refine wpAnyH_ready (rs := [25]) (by kernel_rfl) (by simp) ?_
                refine AllReadyH.cons rfl (fun K hK => ?_) ?_
                · refine step_append_lies _ (by rfl) _ _ _ (by rfl) B3 59 j0 _ 3 56 und_asks Ji.out Jz0.out Jz1.out Jz2.out rfl (by decide) _ k (os.flatMap askC) (by rfl) (own_below HOWN.out (by repeat (first | with_reducible exact Below.refl _ _ | with_reducible assumption | with_reducible refine Below.drew ?_ | with_reducible refine Below.alloc ?_ (by first | omega | (simp; done) | (simp; omega)) _ | with_reducible refine Below.setCell ?_ (by first | omega | (simp; done) | (simp; omega)) _))) ⟨_, 0, none⟩ 1 1 (askC (ai, .slice ra av.length rc, .slice (some ⟨g4, 0, none⟩) an.length cap4)) (by rfl) rfl (One.cells (heap_alloc_new _ _)) (by intro u hu; simp [askC] at hu; rcases hu with rfl | rfl | rfl <;> rfl) (by decide) (by unfold maxLen; omega) (by omega) (by first | omega | (simp; done) | (simp; omega)) _ rfl ?_; intro g9 cap9 w9 hown9 hgr9 hat9 hgl9; have hb9 : Below B3 wr w9 := Below.grown (Below.mono (by repeat (first | with_reducible exact Below.refl _ _ | with_reducible assumption | with_reducible refine Below.drew ?_ | with_reducible refine Below.alloc ?_ (by first | omega | (simp; done) | (simp; omega)) _ | with_reducible refine Below.setCell ?_ (by first | omega | (simp; done) | (simp; omega)) _)) y3) hgr9 (by first | omega | (simp; done) | (simp; omega)) (fun g hg => (HOWN.out.lt g hg).1); have e9 : w9.cell? ⟨w.heap.size + 1 + 1, 0, none⟩ = some (.slice oa k oc) := (olds hb9 _ _ y2).trans e0; have f9 : w9.frozen? ⟨w.heap.size + 1 + 1, 0, none⟩ = false := (oldf hb9 _ _ y2).trans (f2 0)
                  clear hHeld
                  refine hK.out _ _ ?_ (fun hHeld => ?_)
                  · (first | (refine fun b o hb _ => olds (Below.mono (B := wr.heap.size) ?_ y3) b o hb; (repeat (first | with_reducible exact Below.refl _ _ | with_reducible assumption | with_reducible refine Below.drew ?_ | with_reducible refine Below.alloc ?_ (by first | omega | (simp; done) | (simp; omega)) _ | with_reducible refine Below.setCell ?_ (by first | omega | (simp; done) | (simp; omega)) _)); done) | (refine fun b o hb _ => olds ?_ b o hb; (repeat (first | with_reducible exact Below.refl _ _ | with_reducible assumption | with_reducible refine Below.drew ?_ | with_reducible refine Below.alloc ?_ (by first | omega | (simp; done) | (simp; omega)) _ | with_reducible refine Below.setCell ?_ (by first | omega | (simp; done) | (simp; omega)) _)); done) | exact fun b o hb hne => (World.cell?_of_block (Below.heap_setCell _ _ _ _ hne)).trans (olds hb9 b o hb))
                  clear hK K
                  refine wpAnyH_take (i := 26) (v := ?_) rfl (by kernel_rfl) (by kernel_rfl) (by kernel_rfl) (fun _ _ _ h => h) (Or.inl ⟨by rfl, ?_⟩) (by assumption) ?_
                  rotate_left
                  · intro w hSw; (try dsimp only [List.getElem_toArray, List.getElem_cons_succ, List.getElem_cons_zero] at hSw ⊢); go_simp; (try with_reducible rfl)
                  (try dsimp only [List.getElem_toArray, List.getElem_cons_succ, List.getElem_cons_zero]); (try simp only [Act.put, List.setIfInBounds_toArray, List.set_cons_zero, List.set_cons_succ])
                  refine wpAnyH_ready (rs := [27]) (by kernel_rfl) (by simp) ?_
                  refine AllReadyH.cons rfl (fun K hK => ?_) ?_
                  · go_simp
                    clear hHeld
                    refine hK.out _ _ ?_ (fun hHeld => ?_)
                    · (first | (refine fun b o hb _ => olds (Below.mono (B := wr.heap.size) ?_ y3) b o hb; (repeat (first | with_reducible exact Below.refl _ _ | with_reducible assumption | with_reducible refine Below.drew ?_ | with_reducible refine Below.alloc ?_ (by first | omega | (simp; done) | (simp; omega)) _ | with_reducible refine Below.setCell ?_ (by first | omega | (simp; done) | (simp; omega)) _)); done) | (refine fun b o hb _ => olds ?_ b o hb; (repeat (first | with_reducible exact Below.refl _ _ | with_reducible assumption | with_reducible refine Below.drew ?_ | with_reducible refine Below.alloc ?_ (by first | omega | (simp; done) | (simp; omega)) _ | with_reducible refine Below.setCell ?_ (by first | omega | (simp; done) | (simp; omega)) _)); done) | exact fun b o hb hne => (World.cell?_of_block (Below.heap_setCell _ _ _ _ hne)).trans (olds hb9 b o hb))
                    clear hK K
                    refine wpAnyH_done (by kernel_rfl) ?_ _
                    rw [Nat.zero_add] at hown4
                    have hlk : (qs.take k).length = k := by rw [List.length_take]; have := HLT.out; omega
                    have hAB : AsksAt wr B3 (.slice oa k oc) (qs.take k) os := by rw [HB3.out]; exact HA.out
                    have hA9 : AsksAt w9 B3 (.slice (some ⟨g9, 0, none⟩) (k + 1) cap9) (qs.take k ++ [(ai, av, an)]) (os ++ [(ai, .slice ra av.length rc, .slice (some ⟨g4, 0, none⟩) an.length cap4)]) := by
                      first
                        | refine AsksAt.round (a := (ai, av, an)) hAB hb4 hz1' (own_keptA ho1 hgr4) hown4 y3 ?_ (Nat.le_refl _) hgr9 hlk hown9
                        | refine AsksAt.round (a := (ai, av, an)) hAB hb4 hz1' (own_keptB ho1 hgr4) hown4 y3 ?_ (Nat.le_refl _) hgr9 hlk hown9
                        | refine AsksAt.round (a := (ai, av, an)) hAB hb1 hz1' ho1 (own_below hown4 hb1') y3 ?_ (Nat.le_refl _) hgr9 hlk hown9
                      first | exact Nat.le_refl _ | exact hz4 | simp
                    have hp := HB9.mk w.heap.size hb9 y0 y2 HB3.out HH0.out HH1.out HH2.out hA9 HBL.out
                    clear hA9 hAB hlk hown4 hown9 hgr4 hgr9 ho1 hb1 hb1' hb4 hb9 hat4 hat9
                    go_wp2
                    exact ⟨⟨k + 1, _, _, by have := HLT.out; omega, by go_num, hp.1, hp.2.1, hp.2.2.1, (by rw [HAQ.out, ← List.take_succ_eq_append_getElem HLT.out] at hp; exact hp.2.2.2.1), hp.2.2.2.2⟩, by have := HLT.out; simp [intOf]; omega⟩
                  exact AllReadyH.nil
                exact AllReadyH.nil
              exact AllReadyH.nil
            exact AllReadyH.nil
          exact AllReadyH.nil
        exact AllReadyH.nil
      refine AllReadyH.cons rfl (fun K hK => ?_) ?_
      · go_simp; go_at_call 63; refine (copyRow _ _ av (HR2.out.mono (by repeat (first | with_reducible exact Below.refl _ _ | with_reducible assumption | with_reducible refine Below.drew ?_ | with_reducible refine Below.alloc ?_ (by first | omega | (simp; done) | (simp; omega)) _ | with_reducible refine Below.setCell ?_ (by first | omega | (simp; done) | (simp; omega)) _)))).mono ?_; rintro e w1 ⟨v1, zs1, rfl, hz1', ho1, hb1'⟩; have hb1 : Below wr.heap.size wr w1 := bthen (a := wr) (by repeat (first | with_reducible exact Below.refl _ _ | with_reducible assumption | with_reducible refine Below.drew ?_ | with_reducible refine Below.alloc ?_ (by first | omega | (simp; done) | (simp; omega)) _ | with_reducible refine Below.setCell ?_ (by first | omega | (simp; done) | (simp; omega)) _)) hb1'; obtain ⟨ra, rc, rfl⟩ := own_slice ho1; have hz1 := hb1.size; have e1_ : w1.cell? ⟨w.heap.size + 1 + 1, 0, none⟩ = some (.slice oa k oc) := (olds hb1 _ _ z2).trans e0; have zt1 : w.heap.size + 1 + 1 < w1.heap.size := Nat.lt_of_lt_of_le z2 hz1; dsimp only
        clear hHeld
        refine hK.out _ _ ?_ (fun hHeld => ?_)
        · (first | (refine fun b o hb _ => olds (Below.mono (B := wr.heap.size) ?_ y3) b o hb; (repeat (first | with_reducible exact Below.refl _ _ | with_reducible assumption | with_reducible refine Below.drew ?_ | with_reducible refine Below.alloc ?_ (by first | omega | (simp; done) | (simp; omega)) _ | with_reducible refine Below.setCell ?_ (by first | omega | (simp; done) | (simp; omega)) _)); done) | (refine fun b o hb _ => olds ?_ b o hb; (repeat (first | with_reducible exact Below.refl _ _ | with_reducible assumption | with_reducible refine Below.drew ?_ | with_reducible refine Below.alloc ?_ (by first | omega | (simp; done) | (simp; omega)) _ | with_reducible refine Below.setCell ?_ (by first | omega | (simp; done) | (simp; omega)) _)); done) | exact fun b o hb hne => (World.cell?_of_block (Below.heap_setCell _ _ _ _ hne)).trans (olds hb9 b o hb))
        clear hK K
        refine wpAnyH_ready (rs := [1, 15]) (by kernel_rfl) (by simp) ?_
        refine AllReadyH.cons rfl (fun K hK => ?_) ?_
        · go_simp
          clear hHeld
          refine hK.out _ _ ?_ (fun hHeld => ?_)
          · (first | (refine fun b o hb _ => olds (Below.mono (B := wr.heap.size) ?_ y3) b o hb; (repeat (first | with_reducible exact Below.refl _ _ | with_reducible assumption | with_reducible refine Below.drew ?_ | with_reducible refine Below.alloc ?_ (by first | omega | (simp; done) | (simp; omega)) _ | with_reducible refine Below.setCell ?_ (by first | omega | (simp; done) | (simp; omega)) _)); done) | (refine fun b o hb _ => olds ?_ b o hb; (repeat (first | with_reducible exact Below.refl _ _ | with_reducible assumption | with_reducible refine Below.drew ?_ | with_reducible refine Below.alloc ?_ (by first | omega | (simp; done) | (simp; omega)) _ | with_reducible refine Below.setCell ?_ (by first | omega | (simp; done) | (simp; omega)) _)); done) | exact fun b o hb hne => (World.cell?_of_block (Below.heap_setCell _ _ _ _ hne)).trans (olds hb9 b o hb))
          clear hK K
          refine wpAnyH_ready (rs := [15]) (by kernel_rfl) (by simp) ?_
          refine AllReadyH.cons rfl (fun K hK => ?_) ?_
          · go_simp
            clear hHeld
            refine hK.out _ _ ?_ (fun hHeld => ?_)
            · (first | (refine fun b o hb _ => olds (Below.mono (B := wr.heap.size) ?_ y3) b o hb; (repeat (first | with_reducible exact Below.refl _ _ | with_reducible assumption | with_reducible refine Below.drew ?_ | with_reducible refine Below.alloc ?_ (by first | omega | (simp; done) | (simp; omega)) _ | with_reducible refine Below.setCell ?_ (by first | omega | (simp; done) | (simp; omega)) _)); done) | (refine fun b o hb _ => olds ?_ b o hb; (repeat (first | with_reducible exact Below.refl _ _ | with_reducible assumption | with_reducible refine Below.drew ?_ | with_reducible refine Below.alloc ?_ (by first | omega | (simp; done) | (simp; omega)) _ | with_reducible refine Below.setCell ?_ (by first | omega | (simp; done) | (simp; omega)) _)); done) | exact fun b o hb hne => (World.cell?_of_block (Below.heap_setCell _ _ _ _ hne)).trans (olds hb9 b o hb))
            clear hK K
            refine wpAnyH_ready (rs := [22]) (by kernel_rfl) (by simp) ?_
            refine AllReadyH.cons rfl (fun K hK => ?_) ?_
            · refine step_append_lies _ (by rfl) _ _ _ (by rfl) wr.heap.size 3 i0 _ 1 8 und_ints Hi.out Hz0.out Hz1.out Hz2.out rfl (by decide) _ 0 [] (by rfl) (by first | exact own_new w1 wr.heap.size 3 1 0 [] (by first | omega | (simp; done) | (simp; omega)) rfl (by unfold maxLen; omega) | exact own_new wr.drew wr.heap.size 3 1 0 [] (by first | omega | (simp; done) | (simp; omega)) rfl (by unfold maxLen; omega) | exact own_below (own_new wr.drew wr.heap.size 3 1 0 [] (by first | omega | (simp; done) | (simp; omega)) rfl (by unfold maxLen; omega)) hb1') ⟨b7, o7, none⟩ an.length nc (ci an) (by rfl) (by simp [ci]) (ints_news (HR4.out.mono (by repeat (first | with_reducible exact Below.refl _ _ | with_reducible assumption | with_reducible refine Below.drew ?_ | with_reducible refine Below.alloc ?_ (by first | omega | (simp; done) | (simp; omega)) _ | with_reducible refine Below.setCell ?_ (by first | omega | (simp; done) | (simp; omega)) _)))) (ci_one an) han (by unfold maxLen; omega) (by omega) (by first | omega | (simp; done) | (simp; omega)) _ rfl ?_; intro g4 cap4 w4 hown4 hgr4 hat4 hgl4; have hb4 : Below wr.heap.size wr w4 := Below.grown (by repeat (first | with_reducible exact Below.refl _ _ | with_reducible assumption | with_reducible refine Below.drew ?_ | with_reducible refine Below.alloc ?_ (by first | omega | (simp; done) | (simp; omega)) _ | with_reducible refine Below.setCell ?_ (by first | omega | (simp; done) | (simp; omega)) _)) hgr4 (by first | omega | (simp; done) | (simp; omega)) (fun g hg => by cases hg; first | omega | (simp; done)); have hz4 := hb4.size; have e4_ : w4.cell? ⟨w.heap.size + 1 + 1, 0, none⟩ = some (.slice oa k oc) := (olds hb4 _ _ z2).trans e0; have zt4 : w.heap.size + 1 + 1 < w4.heap.size := Nat.lt_of_lt_of_le z2 hz4
              clear hHeld
              refine hK.out _ _ ?_ (fun hHeld => ?_)
              · (first | (refine fun b o hb _ => olds (Below.mono (B := wr.heap.size) ?_ y3) b o hb; (repeat (first | with_reducible exact Below.refl _ _ | with_reducible assumption | with_reducible refine Below.drew ?_ | with_reducible refine Below.alloc ?_ (by first | omega | (simp; done) | (simp; omega)) _ | with_reducible refine Below.setCell ?_ (by first | omega | (simp; done) | (simp; omega)) _)); done) | (refine fun b o hb _ => olds ?_ b o hb; (repeat (first | with_reducible exact Below.refl _ _ | with_reducible assumption | with_reducible refine Below.drew ?_ | with_reducible refine Below.alloc ?_ (by first | omega | (simp; done) | (simp; omega)) _ | with_reducible refine Below.setCell ?_ (by first | omega | (simp; done) | (simp; omega)) _)); done) | exact fun b o hb hne => (World.cell?_of_block (Below.heap_setCell _ _ _ _ hne)).trans (olds hb9 b o hb))
              clear hK K
              refine wpAnyH_take (i := 23) (v := ?_) rfl (by kernel_rfl) (by kernel_rfl) (by kernel_rfl) (fun _ _ _ h => h) (Or.inl ⟨by rfl, ?_⟩) (by assumption) ?_
              rotate_left
              · intro w hSw; (try dsimp only [List.getElem_toArray, List.getElem_cons_succ, List.getElem_cons_zero] at hSw ⊢); go_simp; (try with_reducible rfl)
              (try dsimp only [List.getElem_toArray, List.getElem_cons_succ, List.getElem_cons_zero]); (try simp only [Act.put, List.setIfInBounds_toArray, List.set_cons_zero, List.set_cons_succ])
              refine wpAnyH_ready (rs := [24]) (by kernel_rfl) (by simp) ?_
              refine AllReadyH.cons rfl (fun K hK => ?_) ?_
              · go_simp
                clear hHeld
                refine hK.out _ _ ?_ (fun hHeld => ?_)
                · (first | (refine fun b o hb _ => olds (Below.mono (B := wr.heap.size) ?_ y3) b o hb; (repeat (first | with_reducible exact Below.refl _ _ | with_reducible assumption | with_reducible refine Below.drew ?_ | with_reducible refine Below.alloc ?_ (by first | omega | (simp; done) | (simp; omega)) _ | with_reducible refine Below.setCell ?_ (by first | omega | (simp; done) | (simp; omega)) _)); done) | (refine fun b o hb _ => olds ?_ b o hb; (repeat (first | with_reducible exact Below.refl _ _ | with_reducible assumption | with_reducible refine Below.drew ?_ | with_reducible refine Below.alloc ?_ (by first | omega | (simp; done) | (simp; omega)) _ | with_reducible refine Below.setCell ?_ (by first | omega | (simp; done) | (simp; omega)) _)); done) | exact fun b o hb hne => (World.cell?_of_block (Below.heap_setCell _ _ _ _ hne)).trans (olds hb9 b o hb))
                clear hK K
                refine wpAnyH_ready (rs := [25]) (by kernel_rfl) (by simp) ?_
                refine AllReadyH.cons rfl (fun K hK => ?_) ?_
                · refine step_append_lies _ (by rfl) _ _ _ (by rfl) B3 59 j0 _ 3 56 und_asks Ji.out Jz0.out Jz1.out Jz2.out rfl (by decide) _ k (os.flatMap askC) (by rfl) (own_below HOWN.out (by repeat (first | with_reducible exact Below.refl _ _ | with_reducible assumption | with_reducible refine Below.drew ?_ | with_reducible refine Below.alloc ?_ (by first | omega | (simp; done) | (simp; omega)) _ | with_reducible refine Below.setCell ?_ (by first | omega | (simp; done) | (simp; omega)) _))) ⟨_, 0, none⟩ 1 1 (askC (ai, .slice ra av.length rc, .slice (some ⟨g4, 0, none⟩) an.length cap4)) (by rfl) rfl (One.cells (heap_alloc_new _ _)) (by intro u hu; simp [askC] at hu; rcases hu with rfl | rfl | rfl <;> rfl) (by decide) (by unfold maxLen; omega) (by omega) (by first | omega | (simp; done) | (simp; omega)) _ rfl ?_; intro g9 cap9 w9 hown9 hgr9 hat9 hgl9; have hb9 : Below B3 wr w9 := Below.grown (Below.mono (by repeat (first | with_reducible exact Below.refl _ _ | with_reducible assumption | with_reducible refine Below.drew ?_ | with_reducible refine Below.alloc ?_ (by first | omega | (simp; done) | (simp; omega)) _ | with_reducible refine Below.setCell ?_ (by first | omega | (simp; done) | (simp; omega)) _)) y3) hgr9 (by first | omega | (simp; done) | (simp; omega)) (fun g hg => (HOWN.out.lt g hg).1); have e9 : w9.cell? ⟨w.heap.size + 1 + 1, 0, none⟩ = some (.slice oa k oc) := (olds hb9 _ _ y2).trans e0; have f9 : w9.frozen? ⟨w.heap.size + 1 + 1, 0, none⟩ = false := (oldf hb9 _ _ y2).trans (f2 0)
                  clear hHeld
                  refine hK.out _ _ ?_ (fun hHeld => ?_)
                  · (first | (refine fun b o hb _ => olds (Below.mono (B := wr.heap.size) ?_ y3) b o hb; (repeat (first | with_reducible exact Below.refl _ _ | with_reducible assumption | with_reducible refine Below.drew ?_ | with_reducible refine Below.alloc ?_ (by first | omega | (simp; done) | (simp; omega)) _ | with_reducible refine Below.setCell ?_ (by first | omega | (simp; done) | (simp; omega)) _)); done) | (refine fun b o hb _ => olds ?_ b o hb; (repeat (first | with_reducible exact Below.refl _ _ | with_reducible assumption | with_reducible refine Below.drew ?_ | with_reducible refine Below.alloc ?_ (by first | omega | (simp; done) | (simp; omega)) _ | with_reducible refine Below.setCell ?_ (by first | omega | (simp; done) | (simp; omega)) _)); done) | exact fun b o hb hne => (World.cell?_of_block (Below.heap_setCell _ _ _ _ hne)).trans (olds hb9 b o hb))
                  clear hK K
                  refine wpAnyH_take (i := 26) (v := ?_) rfl (by kernel_rfl) (by kernel_rfl) (by kernel_rfl) (fun _ _ _ h => h) (Or.inl ⟨by rfl, ?_⟩) (by assumption) ?_
                  rotate_left
                  · intro w hSw; (try dsimp only [List.getElem_toArray, List.getElem_cons_succ, List.getElem_cons_zero] at hSw ⊢); go_simp; (try with_reducible rfl)
                  (try dsimp only [List.getElem_toArray, List.getElem_cons_succ, List.getElem_cons_zero]); (try simp only [Act.put, List.setIfInBounds_toArray, List.set_cons_zero, List.set_cons_succ])
                  refine wpAnyH_ready (rs := [27]) (by kernel_rfl) (by simp) ?_
                  refine AllReadyH.cons rfl (fun K hK => ?_) ?_
                  · go_simp
                    clear hHeld
                    refine hK.out _ _ ?_ (fun hHeld => ?_)
                    · (first | (refine fun b o hb _ => olds (Below.mono (B := wr.heap.size) ?_ y3) b o hb; (repeat (first | with_reducible exact Below.refl _ _ | with_reducible assumption | with_reducible refine Below.drew ?_ | with_reducible refine Below.alloc ?_ (by first | omega | (simp; done) | (simp; omega)) _ | with_reducible refine Below.setCell ?_ (by first | omega | (simp; done) | (simp; omega)) _)); done) | (refine fun b o hb _ => olds ?_ b o hb; (repeat (first | with_reducible exact Below.refl _ _ | with_reducible assumption | with_reducible refine Below.drew ?_ | with_reducible refine Below.alloc ?_ (by first | omega | (simp; done) | (simp; omega)) _ | with_reducible refine Below.setCell ?_ (by first | omega | (simp; done) | (simp; omega)) _)); done) | exact fun b o hb hne => (World.cell?_of_block (Below.heap_setCell _ _ _ _ hne)).trans (olds hb9 b o hb))
                    clear hK K
                    refine wpAnyH_done (by kernel_rfl) ?_ _
                    rw [Nat.zero_add] at hown4
                    have hlk : (qs.take k).length = k := by rw [List.length_take]; have := HLT.out; omega
                    have hAB : AsksAt wr B3 (.slice oa k oc) (qs.take k) os := by rw [HB3.out]; exact HA.out
                    have hA9 : AsksAt w9 B3 (.slice (some ⟨g9, 0, none⟩) (k + 1) cap9) (qs.take k ++ [(ai, av, an)]) (os ++ [(ai, .slice ra av.length rc, .slice (some ⟨g4, 0, none⟩) an.length cap4)]) := by
                      first
                        | refine AsksAt.round (a := (ai, av, an)) hAB hb4 hz1' (own_keptA ho1 hgr4) hown4 y3 ?_ (Nat.le_refl _) hgr9 hlk hown9
                        | refine AsksAt.round (a := (ai, av, an)) hAB hb4 hz1' (own_keptB ho1 hgr4) hown4 y3 ?_ (Nat.le_refl _) hgr9 hlk hown9
                        | refine AsksAt.round (a := (ai, av, an)) hAB hb1 hz1' ho1 (own_below hown4 hb1') y3 ?_ (Nat.le_refl _) hgr9 hlk hown9
                      first | exact Nat.le_refl _ | exact hz4 | simp
                    have hp := HB9.mk w.heap.size hb9 y0 y2 HB3.out HH0.out HH1.out HH2.out hA9 HBL.out
                    clear hA9 hAB hlk hown4 hown9 hgr4 hgr9 ho1 hb1 hb1' hb4 hb9 hat4 hat9
                    go_wp2
                    exact ⟨⟨k + 1, _, _, by have := HLT.out; omega, by go_num, hp.1, hp.2.1, hp.2.2.1, (by rw [HAQ.out, ← List.take_succ_eq_append_getElem HLT.out] at hp; exact hp.2.2.2.1), hp.2.2.2.2⟩, by have := HLT.out; simp [intOf]; omega⟩
                  exact AllReadyH.nil
                exact AllReadyH.nil
              exact AllReadyH.nil
            exact AllReadyH.nil
          exact AllReadyH.nil
        refine AllReadyH.cons rfl (fun K hK => ?_) ?_
        · go_simp
          clear hHeld
          refine hK.out _ _ ?_ (fun hHeld => ?_)
          · (first | (refine fun b o hb _ => olds (Below.mono (B := wr.heap.size) ?_ y3) b o hb; (repeat (first | with_reducible exact Below.refl _ _ | with_reducible assumption | with_reducible refine Below.drew ?_ | with_reducible refine Below.alloc ?_ (by first | omega | (simp; done) | (simp; omega)) _ | with_reducible refine Below.setCell ?_ (by first | omega | (simp; done) | (simp; omega)) _)); done) | (refine fun b o hb _ => olds ?_ b o hb; (repeat (first | with_reducible exact Below.refl _ _ | with_reducible assumption | with_reducible refine Below.drew ?_ | with_reducible refine Below.alloc ?_ (by first | omega | (simp; done) | (simp; omega)) _ | with_reducible refine Below.setCell ?_ (by first | omega | (simp; done) | (simp; omega)) _)); done) | exact fun b o hb hne => (World.cell?_of_block (Below.heap_setCell _ _ _ _ hne)).trans (olds hb9 b o hb))
          clear hK K
          refine wpAnyH_ready (rs := [1, 22]) (by kernel_rfl) (by simp) ?_
          refine AllReadyH.cons rfl (fun K hK => ?_) ?_
          · go_simp
            clear hHeld
            refine hK.out _ _ ?_ (fun hHeld => ?_)
            · (first | (refine fun b o hb _ => olds (Below.mono (B := wr.heap.size) ?_ y3) b o hb; (repeat (first | with_reducible exact Below.refl _ _ | with_reducible assumption | with_reducible refine Below.drew ?_ | with_reducible refine Below.alloc ?_ (by first | omega | (simp; done) | (simp; omega)) _ | with_reducible refine Below.setCell ?_ (by first | omega | (simp; done) | (simp; omega)) _)); done) | (refine fun b o hb _ => olds ?_ b o hb; (repeat (first | with_reducible exact Below.refl _ _ | with_reducible assumption | with_reducible refine Below.drew ?_ | with_reducible refine Below.alloc ?_ (by first | omega | (simp; done) | (simp; omega)) _ | with_reducible refine Below.setCell ?_ (by first | omega | (simp; done) | (simp; omega)) _)); done) | exact fun b o hb hne => (World.cell?_of_block (Below.heap_setCell _ _ _ _ hne)).trans (olds hb9 b o hb))
            clear hK K
            refine wpAnyH_ready (rs := [22]) (by kernel_rfl) (by simp) ?_
            refine AllReadyH.cons rfl (fun K hK => ?_) ?_
            · refine step_append_lies _ (by rfl) _ _ _ (by rfl) wr.heap.size 3 i0 _ 1 8 und_ints Hi.out Hz0.out Hz1.out Hz2.out rfl (by decide) _ 0 [] (by rfl) (by first | exact own_new w1 wr.heap.size 3 1 0 [] (by first | omega | (simp; done) | (simp; omega)) rfl (by unfold maxLen; omega) | exact own_new wr.drew wr.heap.size 3 1 0 [] (by first | omega | (simp; done) | (simp; omega)) rfl (by unfold maxLen; omega) | exact own_below (own_new wr.drew wr.heap.size 3 1 0 [] (by first | omega | (simp; done) | (simp; omega)) rfl (by unfold maxLen; omega)) hb1') ⟨b7, o7, none⟩ an.length nc (ci an) (by rfl) (by simp [ci]) (ints_news (HR4.out.mono (by repeat (first | with_reducible exact Below.refl _ _ | with_reducible assumption | with_reducible refine Below.drew ?_ | with_reducible refine Below.alloc ?_ (by first | omega | (simp; done) | (simp; omega)) _ | with_reducible refine Below.setCell ?_ (by first | omega | (simp; done) | (simp; omega)) _)))) (ci_one an) han (by unfold maxLen; omega) (by omega) (by first | omega | (simp; done) | (simp; omega)) _ rfl ?_; intro g4 cap4 w4 hown4 hgr4 hat4 hgl4; have hb4 : Below wr.heap.size wr w4 := Below.grown (by repeat (first | with_reducible exact Below.refl _ _ | with_reducible assumption | with_reducible refine Below.drew ?_ | with_reducible refine Below.alloc ?_ (by first | omega | (simp; done) | (simp; omega)) _ | with_reducible refine Below.setCell ?_ (by first | omega | (simp; done) | (simp; omega)) _)) hgr4 (by first | omega | (simp; done) | (simp; omega)) (fun g hg => by cases hg; first | omega | (simp; done)); have hz4 := hb4.size; have e4_ : w4.cell? ⟨w.heap.size + 1 + 1, 0, none⟩ = some (.slice oa k oc) := (olds hb4 _ _ z2).trans e0; have zt4 : w.heap.size + 1 + 1 < w4.heap.size := Nat.lt_of_lt_of_le z2 hz4
              clear hHeld
              refine hK.out _ _ ?_ (fun hHeld => ?_)
              · (first | (refine fun b o hb _ => olds (Below.mono (B := wr.heap.size) ?_ y3) b o hb; (repeat (first | with_reducible exact Below.refl _ _ | with_reducible assumption | with_reducible refine Below.drew ?_ | with_reducible refine Below.alloc ?_ (by first | omega | (simp; done) | (simp; omega)) _ | with_reducible refine Below.setCell ?_ (by first | omega | (simp; done) | (simp; omega)) _)); done) | (refine fun b o hb _ => olds ?_ b o hb; (repeat (first | with_reducible exact Below.refl _ _ | with_reducible assumption | with_reducible refine Below.drew ?_ | with_reducible refine Below.alloc ?_ (by first | omega | (simp; done) | (simp; omega)) _ | with_reducible refine Below.setCell ?_ (by first | omega | (simp; done) | (simp; omega)) _)); done) | exact fun b o hb hne => (World.cell?_of_block (Below.heap_setCell _ _ _ _ hne)).trans (olds hb9 b o hb))
              clear hK K
              refine wpAnyH_take (i := 23) (v := ?_) rfl (by kernel_rfl) (by kernel_rfl) (by kernel_rfl) (fun _ _ _ h => h) (Or.inl ⟨by rfl, ?_⟩) (by assumption) ?_
              rotate_left
              · intro w hSw; (try dsimp only [List.getElem_toArray, List.getElem_cons_succ, List.getElem_cons_zero] at hSw ⊢); go_simp; (try with_reducible rfl)
              (try dsimp only [List.getElem_toArray, List.getElem_cons_succ, List.getElem_cons_zero]); (try simp only [Act.put, List.setIfInBounds_toArray, List.set_cons_zero, List.set_cons_succ])
              refine wpAnyH_ready (rs := [24]) (by kernel_rfl) (by simp) ?_
              refine AllReadyH.cons rfl (fun K hK => ?_) ?_
              · go_simp
                clear hHeld
                refine hK.out _ _ ?_ (fun hHeld => ?_)
                · (first | (refine fun b o hb _ => olds (Below.mono (B := wr.heap.size) ?_ y3) b o hb; (repeat (first | with_reducible exact Below.refl _ _ | with_reducible assumption | with_reducible refine Below.drew ?_ | with_reducible refine Below.alloc ?_ (by first | omega | (simp; done) | (simp; omega)) _ | with_reducible refine Below.setCell ?_ (by first | omega | (simp; done) | (simp; omega)) _)); done) | (refine fun b o hb _ => olds ?_ b o hb; (repeat (first | with_reducible exact Below.refl _ _ | with_reducible assumption | with_reducible refine Below.drew ?_ | with_reducible refine Below.alloc ?_ (by first | omega | (simp; done) | (simp; omega)) _ | with_reducible refine Below.setCell ?_ (by first | omega | (simp; done) | (simp; omega)) _)); done) | exact fun b o hb hne => (World.cell?_of_block (Below.heap_setCell _ _ _ _ hne)).trans (olds hb9 b o hb))
                clear hK K
                refine wpAnyH_ready (rs := [25]) (by kernel_rfl) (by simp) ?_
                refine AllReadyH.cons rfl (fun K hK => ?_) ?_
                · refine step_append_lies _ (by rfl) _ _ _ (by rfl) B3 59 j0 _ 3 56 und_asks Ji.out Jz0.out Jz1.out Jz2.out rfl (by decide) _ k (os.flatMap askC) (by rfl) (own_below HOWN.out (by repeat (first | with_reducible exact Below.refl _ _ | with_reducible assumption | with_reducible refine Below.drew ?_ | with_reducible refine Below.alloc ?_ (by first | omega | (simp; done) | (simp; omega)) _ | with_reducible refine Below.setCell ?_ (by first | omega | (simp; done) | (simp; omega)) _))) ⟨_, 0, none⟩ 1 1 (askC (ai, .slice ra av.length rc, .slice (some ⟨g4, 0, none⟩) an.length cap4)) (by rfl) rfl (One.cells (heap_alloc_new _ _)) (by intro u hu; simp [askC] at hu; rcases hu with rfl | rfl | rfl <;> rfl) (by decide) (by unfold maxLen; omega) (by omega) (by first | omega | (simp; done) | (simp; omega)) _ rfl ?_; intro g9 cap9 w9 hown9 hgr9 hat9 hgl9; have hb9 : Below B3 wr w9 := Below.grown (Below.mono (by repeat (first | with_reducible exact Below.refl _ _ | with_reducible assumption | with_reducible refine Below.drew ?_ | with_reducible refine Below.alloc ?_ (by first | omega | (simp; done) | (simp; omega)) _ | with_reducible refine Below.setCell ?_ (by first | omega | (simp; done) | (simp; omega)) _)) y3) hgr9 (by first | omega | (simp; done) | (simp; omega)) (fun g hg => (HOWN.out.lt g hg).1); have e9 : w9.cell? ⟨w.heap.size + 1 + 1, 0, none⟩ = some (.slice oa k oc) := (olds hb9 _ _ y2).trans e0; have f9 : w9.frozen? ⟨w.heap.size + 1 + 1, 0, none⟩ = false := (oldf hb9 _ _ y2).trans (f2 0)
                  clear hHeld
                  refine hK.out _ _ ?_ (fun hHeld => ?_)
                  · (first | (refine fun b o hb _ => olds (Below.mono (B := wr.heap.size) ?_ y3) b o hb; (repeat (first | with_reducible exact Below.refl _ _ | with_reducible assumption | with_reducible refine Below.drew ?_ | with_reducible refine Below.alloc ?_ (by first | omega | (simp; done) | (simp; omega)) _ | with_reducible refine Below.setCell ?_ (by first | omega | (simp; done) | (simp; omega)) _)); done) | (refine fun b o hb _ => olds ?_ b o hb; (repeat (first | with_reducible exact Below.refl _ _ | with_reducible assumption | with_reducible refine Below.drew ?_ | with_reducible refine Below.alloc ?_ (by first | omega | (simp; done) | (simp; omega)) _ | with_reducible refine Below.setCell ?_ (by first | omega | (simp; done) | (simp; omega)) _)); done) | exact fun b o hb hne => (World.cell?_of_block (Below.heap_setCell _ _ _ _ hne)).trans (olds hb9 b o hb))
                  clear hK K
                  refine wpAnyH_take (i := 26) (v := ?_) rfl (by kernel_rfl) (by kernel_rfl) (by kernel_rfl) (fun _ _ _ h => h) (Or.inl ⟨by rfl, ?_⟩) (by assumption) ?_
                  rotate_left
                  · intro w hSw; (try dsimp only [List.getElem_toArray, List.getElem_cons_succ, List.getElem_cons_zero] at hSw ⊢); go_simp; (try with_reducible rfl)
                  (try dsimp only [List.getElem_toArray, List.getElem_cons_succ, List.getElem_cons_zero]); (try simp only [Act.put, List.setIfInBounds_toArray, List.set_cons_zero, List.set_cons_succ])
                  refine wpAnyH_ready (rs := [27]) (by kernel_rfl) (by simp) ?_
                  refine AllReadyH.cons rfl (fun K hK => ?_) ?_
                  · go_simp
                    clear hHeld
                    refine hK.out _ _ ?_ (fun hHeld => ?_)
                    · (first | (refine fun b o hb _ => olds (Below.mono (B := wr.heap.size) ?_ y3) b o hb; (repeat (first | with_reducible exact Below.refl _ _ | with_reducible assumption | with_reducible refine Below.drew ?_ | with_reducible refine Below.alloc ?_ (by first | omega | (simp; done) | (simp; omega)) _ | with_reducible refine Below.setCell ?_ (by first | omega | (simp; done) | (simp; omega)) _)); done) | (refine fun b o hb _ => olds ?_ b o hb; (repeat (first | with_reducible exact Below.refl _ _ | with_reducible assumption | with_reducible refine Below.drew ?_ | with_reducible refine Below.alloc ?_ (by first | omega | (simp; done) | (simp; omega)) _ | with_reducible refine Below.setCell ?_ (by first | omega | (simp; done) | (simp; omega)) _)); done) | exact fun b o hb hne => (World.cell?_of_block (Below.heap_setCell _ _ _ _ hne)).trans (olds hb9 b o hb))
                    clear hK K
                    refine wpAnyH_done (by kernel_rfl) ?_ _
                    rw [Nat.zero_add] at hown4
                    have hlk : (qs.take k).length = k := by rw [List.length_take]; have := HLT.out; omega
                    have hAB : AsksAt wr B3 (.slice oa k oc) (qs.take k) os := by rw [HB3.out]; exact HA.out
                    have hA9 : AsksAt w9 B3 (.slice (some ⟨g9, 0, none⟩) (k + 1) cap9) (qs.take k ++ [(ai, av, an)]) (os ++ [(ai, .slice ra av.length rc, .slice (some ⟨g4, 0, none⟩) an.length cap4)]) := by
                      first
                        | refine AsksAt.round (a := (ai, av, an)) hAB hb4 hz1' (own_keptA ho1 hgr4) hown4 y3 ?_ (Nat.le_refl _) hgr9 hlk hown9
                        | refine AsksAt.round (a := (ai, av, an)) hAB hb4 hz1' (own_keptB ho1 hgr4) hown4 y3 ?_ (Nat.le_refl _) hgr9 hlk hown9
                        | refine AsksAt.round (a := (ai, av, an)) hAB hb1 hz1' ho1 (own_below hown4 hb1') y3 ?_ (Nat.le_refl _) hgr9 hlk hown9
                      first | exact Nat.le_refl _ | exact hz4 | simp
                    have hp := HB9.mk w.heap.size hb9 y0 y2 HB3.out HH0.out HH1.out HH2.out hA9 HBL.out
                    clear hA9 hAB hlk hown4 hown9 hgr4 hgr9 ho1 hb1 hb1' hb4 hb9 hat4 hat9
                    go_wp2
                    exact ⟨⟨k + 1, _, _, by have := HLT.out; omega, by go_num, hp.1, hp.2.1, hp.2.2.1, (by rw [HAQ.out, ← List.take_succ_eq_append_getElem HLT.out] at hp; exact hp.2.2.2.1), hp.2.2.2.2⟩, by have := HLT.out; simp [intOf]; omega⟩
                  exact AllReadyH.nil
                exact AllReadyH.nil
              exact AllReadyH.nil
            exact AllReadyH.nil
          refine AllReadyH.cons rfl (fun K hK => ?_) ?_
          · refine step_append_lies _ (by rfl) _ _ _ (by rfl) wr.heap.size 3 i0 _ 1 8 und_ints Hi.out Hz0.out Hz1.out Hz2.out rfl (by decide) _ 0 [] (by rfl) (by first | exact own_new w1 wr.heap.size 3 1 0 [] (by first | omega | (simp; done) | (simp; omega)) rfl (by unfold maxLen; omega) | exact own_new wr.drew wr.heap.size 3 1 0 [] (by first | omega | (simp; done) | (simp; omega)) rfl (by unfold maxLen; omega) | exact own_below (own_new wr.drew wr.heap.size 3 1 0 [] (by first | omega | (simp; done) | (simp; omega)) rfl (by unfold maxLen; omega)) hb1') ⟨b7, o7, none⟩ an.length nc (ci an) (by rfl) (by simp [ci]) (ints_news (HR4.out.mono (by repeat (first | with_reducible exact Below.refl _ _ | with_reducible assumption | with_reducible refine Below.drew ?_ | with_reducible refine Below.alloc ?_ (by first | omega | (simp; done) | (simp; omega)) _ | with_reducible refine Below.setCell ?_ (by first | omega | (simp; done) | (simp; omega)) _)))) (ci_one an) han (by unfold maxLen; omega) (by omega) (by first | omega | (simp; done) | (simp; omega)) _ rfl ?_; intro g4 cap4 w4 hown4 hgr4 hat4 hgl4; have hb4 : Below wr.heap.size wr w4 := Below.grown (by repeat (first | with_reducible exact Below.refl _ _ | with_reducible assumption | with_reducible refine Below.drew ?_ | with_reducible refine Below.alloc ?_ (by first | omega | (simp; done) | (simp; omega)) _ | with_reducible refine Below.setCell ?_ (by first | omega | (simp; done) | (simp; omega)) _)) hgr4 (by first | omega | (simp; done) | (simp; omega)) (fun g hg => by cases hg; first | omega | (simp; done)); have hz4 := hb4.size; have e4_ : w4.cell? ⟨w.heap.size + 1 + 1, 0, none⟩ = some (.slice oa k oc) := (olds hb4 _ _ z2).trans e0; have zt4 : w.heap.size + 1 + 1 < w4.heap.size := Nat.lt_of_lt_of_le z2 hz4
            clear hHeld
            refine hK.out _ _ ?_ (fun hHeld => ?_)
            · (first | (refine fun b o hb _ => olds (Below.mono (B := wr.heap.size) ?_ y3) b o hb; (repeat (first | with_reducible exact Below.refl _ _ | with_reducible assumption | with_reducible refine Below.drew ?_ | with_reducible refine Below.alloc ?_ (by first | omega | (simp; done) | (simp; omega)) _ | with_reducible refine Below.setCell ?_ (by first | omega | (simp; done) | (simp; omega)) _)); done) | (refine fun b o hb _ => olds ?_ b o hb; (repeat (first | with_reducible exact Below.refl _ _ | with_reducible assumption | with_reducible refine Below.drew ?_ | with_reducible refine Below.alloc ?_ (by first | omega | (simp; done) | (simp; omega)) _ | with_reducible refine Below.setCell ?_ (by first | omega | (simp; done) | (simp; omega)) _)); done) | exact fun b o hb hne => (World.cell?_of_block (Below.heap_setCell _ _ _ _ hne)).trans (olds hb9 b o hb))
            clear hK K
            refine wpAnyH_take (i := 23) (v := ?_) rfl (by kernel_rfl) (by kernel_rfl) (by kernel_rfl) (fun _ _ _ h => h) (Or.inl ⟨by rfl, ?_⟩) (by assumption) ?_
            rotate_left
            · intro w hSw; (try dsimp only [List.getElem_toArray, List.getElem_cons_succ, List.getElem_cons_zero] at hSw ⊢); go_simp; (try with_reducible rfl)
            (try dsimp only [List.getElem_toArray, List.getElem_cons_succ, List.getElem_cons_zero]); (try simp only [Act.put, List.setIfInBounds_toArray, List.set_cons_zero, List.set_cons_succ])
            refine wpAnyH_ready (rs := [1, 24]) (by kernel_rfl) (by simp) ?_
            refine AllReadyH.cons rfl (fun K hK => ?_) ?_
            · go_simp
              clear hHeld
              refine hK.out _ _ ?_ (fun hHeld => ?_)
              · (first | (refine fun b o hb _ => olds (Below.mono (B := wr.heap.size) ?_ y3) b o hb; (repeat (first | with_reducible exact Below.refl _ _ | with_reducible assumption | with_reducible refine Below.drew ?_ | with_reducible refine Below.alloc ?_ (by first | omega | (simp; done) | (simp; omega)) _ | with_reducible refine Below.setCell ?_ (by first | omega | (simp; done) | (simp; omega)) _)); done) | (refine fun b o hb _ => olds ?_ b o hb; (repeat (first | with_reducible exact Below.refl _ _ | with_reducible assumption | with_reducible refine Below.drew ?_ | with_reducible refine Below.alloc ?_ (by first | omega | (simp; done) | (simp; omega)) _ | with_reducible refine Below.setCell ?_ (by first | omega | (simp; done) | (simp; omega)) _)); done) | exact fun b o hb hne => (World.cell?_of_block (Below.heap_setCell _ _ _ _ hne)).trans (olds hb9 b o hb))
              clear hK K
              refine wpAnyH_ready (rs := [24]) (by kernel_rfl) (by simp) ?_
              refine AllReadyH.cons rfl (fun K hK => ?_) ?_
              · go_simp
                clear hHeld
                refine hK.out _ _ ?_ (fun hHeld => ?_)
                · (first | (refine fun b o hb _ => olds (Below.mono (B := wr.heap.size) ?_ y3) b o hb; (repeat (first | with_reducible exact Below.refl _ _ | with_reducible assumption | with_reducible refine Below.drew ?_ | with_reducible refine Below.alloc ?_ (by first | omega | (simp; done) | (simp; omega)) _ | with_reducible refine Below.setCell ?_ (by first | omega | (simp; done) | (simp; omega)) _)); done) | (refine fun b o hb _ => olds ?_ b o hb; (repeat (first | with_reducible exact Below.refl _ _ | with_reducible assumption | with_reducible refine Below.drew ?_ | with_reducible refine Below.alloc ?_ (by first | omega | (simp; done) | (simp; omega)) _ | with_reducible refine Below.setCell ?_ (by first | omega | (simp; done) | (simp; omega)) _)); done) | exact fun b o hb hne => (World.cell?_of_block (Below.heap_setCell _ _ _ _ hne)).trans (olds hb9 b o hb))
                clear hK K
                refine wpAnyH_ready (rs := [25]) (by kernel_rfl) (by simp) ?_
                refine AllReadyH.cons rfl (fun K hK => ?_) ?_
                · refine step_append_lies _ (by rfl) _ _ _ (by rfl) B3 59 j0 _ 3 56 und_asks Ji.out Jz0.out Jz1.out Jz2.out rfl (by decide) _ k (os.flatMap askC) (by rfl) (own_below HOWN.out (by repeat (first | with_reducible exact Below.refl _ _ | with_reducible assumption | with_reducible refine Below.drew ?_ | with_reducible refine Below.alloc ?_ (by first | omega | (simp; done) | (simp; omega)) _ | with_reducible refine Below.setCell ?_ (by first | omega | (simp; done) | (simp; omega)) _))) ⟨_, 0, none⟩ 1 1 (askC (ai, .slice ra av.length rc, .slice (some ⟨g4, 0, none⟩) an.length cap4)) (by rfl) rfl (One.cells (heap_alloc_new _ _)) (by intro u hu; simp [askC] at hu; rcases hu with rfl | rfl | rfl <;> rfl) (by decide) (by unfold maxLen; omega) (by omega) (by first | omega | (simp; done) | (simp; omega)) _ rfl ?_; intro g9 cap9 w9 hown9 hgr9 hat9 hgl9; have hb9 : Below B3 wr w9 := Below.grown (Below.mono (by repeat (first | with_reducible exact Below.refl _ _ | with_reducible assumption | with_reducible refine Below.drew ?_ | with_reducible refine Below.alloc ?_ (by first | omega | (simp; done) | (simp; omega)) _ | with_reducible refine Below.setCell ?_ (by first | omega | (simp; done) | (simp; omega)) _)) y3) hgr9 (by first | omega | (simp; done) | (simp; omega)) (fun g hg => (HOWN.out.lt g hg).1); have e9 : w9.cell? ⟨w.heap.size + 1 + 1, 0, none⟩ = some (.slice oa k oc) := (olds hb9 _ _ y2).trans e0; have f9 : w9.frozen? ⟨w.heap.size + 1 + 1, 0, none⟩ = false := (oldf hb9 _ _ y2).trans (f2 0)
                  clear hHeld
                  refine hK.out _ _ ?_ (fun hHeld => ?_)
                  · (first | (refine fun b o hb _ => olds (Below.mono (B := wr.heap.size) ?_ y3) b o hb; (repeat (first | with_reducible exact Below.refl _ _ | with_reducible assumption | with_reducible refine Below.drew ?_ | with_reducible refine Below.alloc ?_ (by first | omega | (simp; done) | (simp; omega)) _ | with_reducible refine Below.setCell ?_ (by first | omega | (simp; done) | (simp; omega)) _)); done) | (refine fun b o hb _ => olds ?_ b o hb; (repeat (first | with_reducible exact Below.refl _ _ | with_reducible assumption | with_reducible refine Below.drew ?_ | with_reducible refine Below.alloc ?_ (by first | omega | (simp; done) | (simp; omega)) _ | with_reducible refine Below.setCell ?_ (by first | omega | (simp; done) | (simp; omega)) _)); done) | exact fun b o hb hne => (World.cell?_of_block (Below.heap_setCell _ _ _ _ hne)).trans (olds hb9 b o hb))
                  clear hK K
                  refine wpAnyH_take (i := 26) (v := ?_) rfl (by kernel_rfl) (by kernel_rfl) (by kernel_rfl) (fun _ _ _ h => h) (Or.inl ⟨by rfl, ?_⟩) (by assumption) ?_
                  rotate_left
                  · intro w hSw; (try dsimp only [List.getElem_toArray, List.getElem_cons_succ, List.getElem_cons_zero] at hSw ⊢); go_simp; (try with_reducible rfl)
                  (try dsimp only [List.getElem_toArray, List.getElem_cons_succ, List.getElem_cons_zero]); (try simp only [Act.put, List.setIfInBounds_toArray, List.set_cons_zero, List.set_cons_succ])
                  refine wpAnyH_ready (rs := [27]) (by kernel_rfl) (by simp) ?_
                  refine AllReadyH.cons rfl (fun K hK => ?_) ?_
                  · go_simp
                    clear hHeld
                    refine hK.out _ _ ?_ (fun hHeld => ?_)
                    · (first | (refine fun b o hb _ => olds (Below.mono (B := wr.heap.size) ?_ y3) b o hb; (repeat (first | with_reducible exact Below.refl _ _ | with_reducible assumption | with_reducible refine Below.drew ?_ | with_reducible refine Below.alloc ?_ (by first | omega | (simp; done) | (simp; omega)) _ | with_reducible refine Below.setCell ?_ (by first | omega | (simp; done) | (simp; omega)) _)); done) | (refine fun b o hb _ => olds ?_ b o hb; (repeat (first | with_reducible exact Below.refl _ _ | with_reducible assumption | with_reducible refine Below.drew ?_ | with_reducible refine Below.alloc ?_ (by first | omega | (simp; done) | (simp; omega)) _ | with_reducible refine Below.setCell ?_ (by first | omega | (simp; done) | (simp; omega)) _)); done) | exact fun b o hb hne => (World.cell?_of_block (Below.heap_setCell _ _ _ _ hne)).trans (olds hb9 b o hb))
                    clear hK K
                    refine wpAnyH_done (by kernel_rfl) ?_ _
                    rw [Nat.zero_add] at hown4
                    have hlk : (qs.take k).length = k := by rw [List.length_take]; have := HLT.out; omega
                    have hAB : AsksAt wr B3 (.slice oa k oc) (qs.take k) os := by rw [HB3.out]; exact HA.out
                    have hA9 : AsksAt w9 B3 (.slice (some ⟨g9, 0, none⟩) (k + 1) cap9) (qs.take k ++ [(ai, av, an)]) (os ++ [(ai, .slice ra av.length rc, .slice (some ⟨g4, 0, none⟩) an.length cap4)]) := by
                      first
                        | refine AsksAt.round (a := (ai, av, an)) hAB hb4 hz1' (own_keptA ho1 hgr4) hown4 y3 ?_ (Nat.le_refl _) hgr9 hlk hown9
                        | refine AsksAt.round (a := (ai, av, an)) hAB hb4 hz1' (own_keptB ho1 hgr4) hown4 y3 ?_ (Nat.le_refl _) hgr9 hlk hown9
                        | refine AsksAt.round (a := (ai, av, an)) hAB hb1 hz1' ho1 (own_below hown4 hb1') y3 ?_ (Nat.le_refl _) hgr9 hlk hown9
                      first | exact Nat.le_refl _ | exact hz4 | simp
                    have hp := HB9.mk w.heap.size hb9 y0 y2 HB3.out HH0.out HH1.out HH2.out hA9 HBL.out
                    clear hA9 hAB hlk hown4 hown9 hgr4 hgr9 ho1 hb1 hb1' hb4 hb9 hat4 hat9
                    go_wp2
                    exact ⟨⟨k + 1, _, _, by have := HLT.out; omega, by go_num, hp.1, hp.2.1, hp.2.2.1, (by rw [HAQ.out, ← List.take_succ_eq_append_getElem HLT.out] at hp; exact hp.2.2.2.1), hp.2.2.2.2⟩, by have := HLT.out; simp [intOf]; omega⟩
                  exact AllReadyH.nil
                exact AllReadyH.nil
              exact AllReadyH.nil
            refine AllReadyH.cons rfl (fun K hK => ?_) ?_
            · go_simp
              clear hHeld
              refine hK.out _ _ ?_ (fun hHeld => ?_)
              · (first | (refine fun b o hb _ => olds (Below.mono (B := wr.heap.size) ?_ y3) b o hb; (repeat (first | with_reducible exact Below.refl _ _ | with_reducible assumption | with_reducible refine Below.drew ?_ | with_reducible refine Below.alloc ?_ (by first | omega | (simp; done) | (simp; omega)) _ | with_reducible refine Below.setCell ?_ (by first | omega | (simp; done) | (simp; omega)) _)); done) | (refine fun b o hb _ => olds ?_ b o hb; (repeat (first | with_reducible exact Below.refl _ _ | with_reducible assumption | with_reducible refine Below.drew ?_ | with_reducible refine Below.alloc ?_ (by first | omega | (simp; done) | (simp; omega)) _ | with_reducible refine Below.setCell ?_ (by first | omega | (simp; done) | (simp; omega)) _)); done) | exact fun b o hb hne => (World.cell?_of_block (Below.heap_setCell _ _ _ _ hne)).trans (olds hb9 b o hb))
              clear hK K
              refine wpAnyH_ready (rs := [1]) (by kernel_rfl) (by simp) ?_
              refine AllReadyH.cons rfl (fun K hK => ?_) ?_
              · go_simp
                clear hHeld
                refine hK.out _ _ ?_ (fun hHeld => ?_)
                · (first | (refine fun b o hb _ => olds (Below.mono (B := wr.heap.size) ?_ y3) b o hb; (repeat (first | with_reducible exact Below.refl _ _ | with_reducible assumption | with_reducible refine Below.drew ?_ | with_reducible refine Below.alloc ?_ (by first | omega | (simp; done) | (simp; omega)) _ | with_reducible refine Below.setCell ?_ (by first | omega | (simp; done) | (simp; omega)) _)); done) | (refine fun b o hb _ => olds ?_ b o hb; (repeat (first | with_reducible exact Below.refl _ _ | with_reducible assumption | with_reducible refine Below.drew ?_ | with_reducible refine Below.alloc ?_ (by first | omega | (simp; done) | (simp; omega)) _ | with_reducible refine Below.setCell ?_ (by first | omega | (simp; done) | (simp; omega)) _)); done) | exact fun b o hb hne => (World.cell?_of_block (Below.heap_setCell _ _ _ _ hne)).trans (olds hb9 b o hb))
                clear hK K
                refine wpAnyH_ready (rs := [25]) (by kernel_rfl) (by simp) ?_
                refine AllReadyH.cons rfl (fun K hK => ?_) ?_
                · refine step_append_lies _ (by rfl) _ _ _ (by rfl) B3 59 j0 _ 3 56 und_asks Ji.out Jz0.out Jz1.out Jz2.out rfl (by decide) _ k (os.flatMap askC) (by rfl) (own_below HOWN.out (by repeat (first | with_reducible exact Below.refl _ _ | with_reducible assumption | with_reducible refine Below.drew ?_ | with_reducible refine Below.alloc ?_ (by first | omega | (simp; done) | (simp; omega)) _ | with_reducible refine Below.setCell ?_ (by first | omega | (simp; done) | (simp; omega)) _))) ⟨_, 0, none⟩ 1 1 (askC (ai, .slice ra av.length rc, .slice (some ⟨g4, 0, none⟩) an.length cap4)) (by rfl) rfl (One.cells (heap_alloc_new _ _)) (by intro u hu; simp [askC] at hu; rcases hu with rfl | rfl | rfl <;> rfl) (by decide) (by unfold maxLen; omega) (by omega) (by first | omega | (simp; done) | (simp; omega)) _ rfl ?_; intro g9 cap9 w9 hown9 hgr9 hat9 hgl9; have hb9 : Below B3 wr w9 := Below.grown (Below.mono (by repeat (first | with_reducible exact Below.refl _ _ | with_reducible assumption | with_reducible refine Below.drew ?_ | with_reducible refine Below.alloc ?_ (by first | omega | (simp; done) | (simp; omega)) _ | with_reducible refine Below.setCell ?_ (by first | omega | (simp; done) | (simp; omega)) _)) y3) hgr9 (by first | omega | (simp; done) | (simp; omega)) (fun g hg => (HOWN.out.lt g hg).1); have e9 : w9.cell? ⟨w.heap.size + 1 + 1, 0, none⟩ = some (.slice oa k oc) := (olds hb9 _ _ y2).trans e0; have f9 : w9.frozen? ⟨w.heap.size + 1 + 1, 0, none⟩ = false := (oldf hb9 _ _ y2).trans (f2 0)
                  clear hHeld
                  refine hK.out _ _ ?_ (fun hHeld => ?_)
                  · (first | (refine fun b o hb _ => olds (Below.mono (B := wr.heap.size) ?_ y3) b o hb; (repeat (first | with_reducible exact Below.refl _ _ | with_reducible assumption | with_reducible refine Below.drew ?_ | with_reducible refine Below.alloc ?_ (by first | omega | (simp; done) | (simp; omega)) _ | with_reducible refine Below.setCell ?_ (by first | omega | (simp; done) | (simp; omega)) _)); done) | (refine fun b o hb _ => olds ?_ b o hb; (repeat (first | with_reducible exact Below.refl _ _ | with_reducible assumption | with_reducible refine Below.drew ?_ | with_reducible refine Below.alloc ?_ (by first | omega | (simp; done) | (simp; omega)) _ | with_reducible refine Below.setCell ?_ (by first | omega | (simp; done) | (simp; omega)) _)); done) | exact fun b o hb hne => (World.cell?_of_block (Below.heap_setCell _ _ _ _ hne)).trans (olds hb9 b o hb))
                  clear hK K
                  refine wpAnyH_take (i := 26) (v := ?_) rfl (by kernel_rfl) (by kernel_rfl) (by kernel_rfl) (fun _ _ _ h => h) (Or.inl ⟨by rfl, ?_⟩) (by assumption) ?_
                  rotate_left
                  · intro w hSw; (try dsimp only [List.getElem_toArray, List.getElem_cons_succ, List.getElem_cons_zero] at hSw ⊢); go_simp; (try with_reducible rfl)
                  (try dsimp only [List.getElem_toArray, List.getElem_cons_succ, List.getElem_cons_zero]); (try simp only [Act.put, List.setIfInBounds_toArray, List.set_cons_zero, List.set_cons_succ])
                  refine wpAnyH_ready (rs := [27]) (by kernel_rfl) (by simp) ?_
                  refine AllReadyH.cons rfl (fun K hK => ?_) ?_
                  · go_simp
                    clear hHeld
                    refine hK.out _ _ ?_ (fun hHeld => ?_)
                    · (first | (refine fun b o hb _ => olds (Below.mono (B := wr.heap.size) ?_ y3) b o hb; (repeat (first | with_reducible exact Below.refl _ _ | with_reducible assumption | with_reducible refine Below.drew ?_ | with_reducible refine Below.alloc ?_ (by first | omega | (simp; done) | (simp; omega)) _ | with_reducible refine Below.setCell ?_ (by first | omega | (simp; done) | (simp; omega)) _)); done) | (refine fun b o hb _ => olds ?_ b o hb; (repeat (first | with_reducible exact Below.refl _ _ | with_reducible assumption | with_reducible refine Below.drew ?_ | with_reducible refine Below.alloc ?_ (by first | omega | (simp; done) | (simp; omega)) _ | with_reducible refine Below.setCell ?_ (by first | omega | (simp; done) | (simp; omega)) _)); done) | exact fun b o hb hne => (World.cell?_of_block (Below.heap_setCell _ _ _ _ hne)).trans (olds hb9 b o hb))
                    clear hK K
                    refine wpAnyH_done (by kernel_rfl) ?_ _
                    rw [Nat.zero_add] at hown4
                    have hlk : (qs.take k).length = k := by rw [List.length_take]; have := HLT.out; omega
                    have hAB : AsksAt wr B3 (.slice oa k oc) (qs.take k) os := by rw [HB3.out]; exact HA.out
                    have hA9 : AsksAt w9 B3 (.slice (some ⟨g9, 0, none⟩) (k + 1) cap9) (qs.take k ++ [(ai, av, an)]) (os ++ [(ai, .slice ra av.length rc, .slice (some ⟨g4, 0, none⟩) an.length cap4)]) := by
                      first
                        | refine AsksAt.round (a := (ai, av, an)) hAB hb4 hz1' (own_keptA ho1 hgr4) hown4 y3 ?_ (Nat.le_refl _) hgr9 hlk hown9
                        | refine AsksAt.round (a := (ai, av, an)) hAB hb4 hz1' (own_keptB ho1 hgr4) hown4 y3 ?_ (Nat.le_refl _) hgr9 hlk hown9
                        | refine AsksAt.round (a := (ai, av, an)) hAB hb1 hz1' ho1 (own_below hown4 hb1') y3 ?_ (Nat.le_refl _) hgr9 hlk hown9
                      first | exact Nat.le_refl _ | exact hz4 | simp
                    have hp := HB9.mk w.heap.size hb9 y0 y2 HB3.out HH0.out HH1.out HH2.out hA9 HBL.out
                    clear hA9 hAB hlk hown4 hown9 hgr4 hgr9 ho1 hb1 hb1' hb4 hb9 hat4 hat9
                    go_wp2
                    exact ⟨⟨k + 1, _, _, by have := HLT.out; omega, by go_num, hp.1, hp.2.1, hp.2.2.1, (by rw [HAQ.out, ← List.take_succ_eq_append_getElem HLT.out] at hp; exact hp.2.2.2.1), hp.2.2.2.2⟩, by have := HLT.out; simp [intOf]; omega⟩
                  exact AllReadyH.nil
                exact AllReadyH.nil
              exact AllReadyH.nil
            exact AllReadyH.nil
          exact AllReadyH.nil
        exact AllReadyH.nil
      refine AllReadyH.cons rfl (fun K hK => ?_) ?_
      · go_simp
        clear hHeld
        refine hK.out _ _ ?_ (fun hHeld => ?_)
        · (first | (refine fun b o hb _ => olds (Below.mono (B := wr.heap.size) ?_ y3) b o hb; (repeat (first | with_reducible exact Below.refl _ _ | with_reducible assumption | with_reducible refine Below.drew ?_ | with_reducible refine Below.alloc ?_ (by first | omega | (simp; done) | (simp; omega)) _ | with_reducible refine Below.setCell ?_ (by first | omega | (simp; done) | (simp; omega)) _)); done) | (refine fun b o hb _ => olds ?_ b o hb; (repeat (first | with_reducible exact Below.refl _ _ | with_reducible assumption | with_reducible refine Below.drew ?_ | with_reducible refine Below.alloc ?_ (by first | omega | (simp; done) | (simp; omega)) _ | with_reducible refine Below.setCell ?_ (by first | omega | (simp; done) | (simp; omega)) _)); done) | exact fun b o hb hne => (World.cell?_of_block (Below.heap_setCell _ _ _ _ hne)).trans (olds hb9 b o hb))
        clear hK K
        refine wpAnyH_ready (rs := [1, 14]) (by kernel_rfl) (by simp) ?_
        refine AllReadyH.cons rfl (fun K hK => ?_) ?_
        · go_simp
          clear hHeld
          refine hK.out _ _ ?_ (fun hHeld => ?_)
          · (first | (refine fun b o hb _ => olds (Below.mono (B := wr.heap.size) ?_ y3) b o hb; (repeat (first | with_reducible exact Below.refl _ _ | with_reducible assumption | with_reducible refine Below.drew ?_ | with_reducible refine Below.alloc ?_ (by first | omega | (simp; done) | (simp; omega)) _ | with_reducible refine Below.setCell ?_ (by first | omega | (simp; done) | (simp; omega)) _)); done) | (refine fun b o hb _ => olds ?_ b o hb; (repeat (first | with_reducible exact Below.refl _ _ | with_reducible assumption | with_reducible refine Below.drew ?_ | with_reducible refine Below.alloc ?_ (by first | omega | (simp; done) | (simp; omega)) _ | with_reducible refine Below.setCell ?_ (by first | omega | (simp; done) | (simp; omega)) _)); done) | exact fun b o hb hne => (World.cell?_of_block (Below.heap_setCell _ _ _ _ hne)).trans (olds hb9 b o hb))
          clear hK K
          refine wpAnyH_ready (rs := [14]) (by kernel_rfl) (by simp) ?_
          refine AllReadyH.cons rfl (fun K hK => ?_) ?_
          · go_simp; go_at_call 63; refine (copyRow _ _ av (HR2.out.mono (by repeat (first | with_reducible exact Below.refl _ _ | with_reducible assumption | with_reducible refine Below.drew ?_ | with_reducible refine Below.alloc ?_ (by first | omega | (simp; done) | (simp; omega)) _ | with_reducible refine Below.setCell ?_ (by first | omega | (simp; done) | (simp; omega)) _)))).mono ?_; rintro e w1 ⟨v1, zs1, rfl, hz1', ho1, hb1'⟩; have hb1 : Below wr.heap.size wr w1 := bthen (a := wr) (by repeat (first | with_reducible exact Below.refl _ _ | with_reducible assumption | with_reducible refine Below.drew ?_ | with_reducible refine Below.alloc ?_ (by first | omega | (simp; done) | (simp; omega)) _ | with_reducible refine Below.setCell ?_ (by first | omega | (simp; done) | (simp; omega)) _)) hb1'; obtain ⟨ra, rc, rfl⟩ := own_slice ho1; have hz1 := hb1.size; have e1_ : w1.cell? ⟨w.heap.size + 1 + 1, 0, none⟩ = some (.slice oa k oc) := (olds hb1 _ _ z2).trans e0; have zt1 : w.heap.size + 1 + 1 < w1.heap.size := Nat.lt_of_lt_of_le z2 hz1; dsimp only
            clear hHeld
            refine hK.out _ _ ?_ (fun hHeld => ?_)
            · (first | (refine fun b o hb _ => olds (Below.mono (B := wr.heap.size) ?_ y3) b o hb; (repeat (first | with_reducible exact Below.refl _ _ | with_reducible assumption | with_reducible refine Below.drew ?_ | with_reducible refine Below.alloc ?_ (by first | omega | (simp; done) | (simp; omega)) _ | with_reducible refine Below.setCell ?_ (by first | omega | (simp; done) | (simp; omega)) _)); done) | (refine fun b o hb _ => olds ?_ b o hb; (repeat (first | with_reducible exact Below.refl _ _ | with_reducible assumption | with_reducible refine Below.drew ?_ | with_reducible refine Below.alloc ?_ (by first | omega | (simp; done) | (simp; omega)) _ | with_reducible refine Below.setCell ?_ (by first | omega | (simp; done) | (simp; omega)) _)); done) | exact fun b o hb hne => (World.cell?_of_block (Below.heap_setCell _ _ _ _ hne)).trans (olds hb9 b o hb))
            clear hK K
            refine wpAnyH_ready (rs := [22]) (by kernel_rfl) (by simp) ?_
            refine AllReadyH.cons rfl (fun K hK => ?_) ?_
            · refine step_append_lies _ (by rfl) _ _ _ (by rfl) wr.heap.size 3 i0 _ 1 8 und_ints Hi.out Hz0.out Hz1.out Hz2.out rfl (by decide) _ 0 [] (by rfl) (by first | exact own_new w1 wr.heap.size 3 1 0 [] (by first | omega | (simp; done) | (simp; omega)) rfl (by unfold maxLen; omega) | exact own_new wr.drew wr.heap.size 3 1 0 [] (by first | omega | (simp; done) | (simp; omega)) rfl (by unfold maxLen; omega) | exact own_below (own_new wr.drew wr.heap.size 3 1 0 [] (by first | omega | (simp; done) | (simp; omega)) rfl (by unfold maxLen; omega)) hb1') ⟨b7, o7, none⟩ an.length nc (ci an) (by rfl) (by simp [ci]) (ints_news (HR4.out.mono (by repeat (first | with_reducible exact Below.refl _ _ | with_reducible assumption | with_reducible refine Below.drew ?_ | with_reducible refine Below.alloc ?_ (by first | omega | (simp; done) | (simp; omega)) _ | with_reducible refine Below.setCell ?_ (by first | omega | (simp; done) | (simp; omega)) _)))) (ci_one an) han (by unfold maxLen; omega) (by omega) (by first | omega | (simp; done) | (simp; omega)) _ rfl ?_; intro g4 cap4 w4 hown4 hgr4 hat4 hgl4; have hb4 : Below wr.heap.size wr w4 := Below.grown (by repeat (first | with_reducible exact Below.refl _ _ | with_reducible assumption | with_reducible refine Below.drew ?_ | with_reducible refine Below.alloc ?_ (by first | omega | (simp; done) | (simp; omega)) _ | with_reducible refine Below.setCell ?_ (by first | omega | (simp; done) | (simp; omega)) _)) hgr4 (by first | omega | (simp; done) | (simp; omega)) (fun g hg => by cases hg; first | omega | (simp; done)); have hz4 := hb4.size; have e4_ : w4.cell? ⟨w.heap.size + 1 + 1, 0, none⟩ = some (.slice oa k oc) := (olds hb4 _ _ z2).trans e0; have zt4 : w.heap.size + 1 + 1 < w4.heap.size := Nat.lt_of_lt_of_le z2 hz4
              clear hHeld
              refine hK.out _ _ ?_ (fun hHeld => ?_)
              · (first | (refine fun b o hb _ => olds (Below.mono (B := wr.heap.size) ?_ y3) b o hb; (repeat (first | with_reducible exact Below.refl _ _ | with_reducible assumption | with_reducible refine Below.drew ?_ | with_reducible refine Below.alloc ?_ (by first | omega | (simp; done) | (simp; omega)) _ | with_reducible refine Below.setCell ?_ (by first | omega | (simp; done) | (simp; omega)) _)); done) | (refine fun b o hb _ => olds ?_ b o hb; (repeat (first | with_reducible exact Below.refl _ _ | with_reducible assumption | with_reducible refine Below.drew ?_ | with_reducible refine Below.alloc ?_ (by first | omega | (simp; done) | (simp; omega)) _ | with_reducible refine Below.setCell ?_ (by first | omega | (simp; done) | (simp; omega)) _)); done) | exact fun b o hb hne => (World.cell?_of_block (Below.heap_setCell _ _ _ _ hne)).trans (olds hb9 b o hb))
              clear hK K
              refine wpAnyH_take (i := 23) (v := ?_) rfl (by kernel_rfl) (by kernel_rfl) (by kernel_rfl) (fun _ _ _ h => h) (Or.inl ⟨by rfl, ?_⟩) (by assumption) ?_
              rotate_left
              · intro w hSw; (try dsimp only [List.getElem_toArray, List.getElem_cons_succ, List.getElem_cons_zero] at hSw ⊢); go_simp; (try with_reducible rfl)
              (try dsimp only [List.getElem_toArray, List.getElem_cons_succ, List.getElem_cons_zero]); (try simp only [Act.put, List.setIfInBounds_toArray, List.set_cons_zero, List.set_cons_succ])
              refine wpAnyH_ready (rs := [24]) (by kernel_rfl) (by simp) ?_
              refine AllReadyH.cons rfl (fun K hK => ?_) ?_
              · go_simp
                clear hHeld
                refine hK.out _ _ ?_ (fun hHeld => ?_)
                · (first | (refine fun b o hb _ => olds (Below.mono (B := wr.heap.size) ?_ y3) b o hb; (repeat (first | with_reducible exact Below.refl _ _ | with_reducible assumption | with_reducible refine Below.drew ?_ | with_reducible refine Below.alloc ?_ (by first | omega | (simp; done) | (simp; omega)) _ | with_reducible refine Below.setCell ?_ (by first | omega | (simp; done) | (simp; omega)) _)); done) | (refine fun b o hb _ => olds ?_ b o hb; (repeat (first | with_reducible exact Below.refl _ _ | with_reducible assumption | with_reducible refine Below.drew ?_ | with_reducible refine Below.alloc ?_ (by first | omega | (simp; done) | (simp; omega)) _ | with_reducible refine Below.setCell ?_ (by first | omega | (simp; done) | (simp; omega)) _)); done) | exact fun b o hb hne => (World.cell?_of_block (Below.heap_setCell _ _ _ _ hne)).trans (olds hb9 b o hb))
                clear hK K
                refine wpAnyH_ready (rs := [25]) (by kernel_rfl) (by simp) ?_
                refine AllReadyH.cons rfl (fun K hK => ?_) ?_
                · refine step_append_lies _ (by rfl) _ _ _ (by rfl) B3 59 j0 _ 3 56 und_asks Ji.out Jz0.out Jz1.out Jz2.out rfl (by decide) _ k (os.flatMap askC) (by rfl) (own_below HOWN.out (by repeat (first | with_reducible exact Below.refl _ _ | with_reducible assumption | with_reducible refine Below.drew ?_ | with_reducible refine Below.alloc ?_ (by first | omega | (simp; done) | (simp; omega)) _ | with_reducible refine Below.setCell ?_ (by first | omega | (simp; done) | (simp; omega)) _))) ⟨_, 0, none⟩ 1 1 (askC (ai, .slice ra av.length rc, .slice (some ⟨g4, 0, none⟩) an.length cap4)) (by rfl) rfl (One.cells (heap_alloc_new _ _)) (by intro u hu; simp [askC] at hu; rcases hu with rfl | rfl | rfl <;> rfl) (by decide) (by unfold maxLen; omega) (by omega) (by first | omega | (simp; done) | (simp; omega)) _ rfl ?_; intro g9 cap9 w9 hown9 hgr9 hat9 hgl9; have hb9 : Below B3 wr w9 := Below.grown (Below.mono (by repeat (first | with_reducible exact Below.refl _ _ | with_reducible assumption | with_reducible refine Below.drew ?_ | with_reducible refine Below.alloc ?_ (by first | omega | (simp; done) | (simp; omega)) _ | with_reducible refine Below.setCell ?_ (by first | omega | (simp; done) | (simp; omega)) _)) y3) hgr9 (by first | omega | (simp; done) | (simp; omega)) (fun g hg => (HOWN.out.lt g hg).1); have e9 : w9.cell? ⟨w.heap.size + 1 + 1, 0, none⟩ = some (.slice oa k oc) := (olds hb9 _ _ y2).trans e0; have f9 : w9.frozen? ⟨w.heap.size + 1 + 1, 0, none⟩ = false := (oldf hb9 _ _ y2).trans (f2 0)
                  clear hHeld
                  refine hK.out _ _ ?_ (fun hHeld => ?_)
                  · (first | (refine fun b o hb _ => olds (Below.mono (B := wr.heap.size) ?_ y3) b o hb; (repeat (first | with_reducible exact Below.refl _ _ | with_reducible assumption | with_reducible refine Below.drew ?_ | with_reducible refine Below.alloc ?_ (by first | omega | (simp; done) | (simp; omega)) _ | with_reducible refine Below.setCell ?_ (by first | omega | (simp; done) | (simp; omega)) _)); done) | (refine fun b o hb _ => olds ?_ b o hb; (repeat (first | with_reducible exact Below.refl _ _ | with_reducible assumption | with_reducible refine Below.drew ?_ | with_reducible refine Below.alloc ?_ (by first | omega | (simp; done) | (simp; omega)) _ | with_reducible refine Below.setCell ?_ (by first | omega | (simp; done) | (simp; omega)) _)); done) | exact fun b o hb hne => (World.cell?_of_block (Below.heap_setCell _ _ _ _ hne)).trans (olds hb9 b o hb))
                  clear hK K
                  refine wpAnyH_take (i := 26) (v := ?_) rfl (by kernel_rfl) (by kernel_rfl) (by kernel_rfl) (fun _ _ _ h => h) (Or.inl ⟨by rfl, ?_⟩) (by assumption) ?_
                  rotate_left
                  · intro w hSw; (try dsimp only [List.getElem_toArray, List.getElem_cons_succ, List.getElem_cons_zero] at hSw ⊢); go_simp; (try with_reducible rfl)
                  (try dsimp only [List.getElem_toArray, List.getElem_cons_succ, List.getElem_cons_zero]); (try simp only [Act.put, List.setIfInBounds_toArray, List.set_cons_zero, List.set_cons_succ])
                  refine wpAnyH_ready (rs := [27]) (by kernel_rfl) (by simp) ?_
                  refine AllReadyH.cons rfl (fun K hK => ?_) ?_
                  · go_simp
                    clear hHeld
                    refine hK.out _ _ ?_ (fun hHeld => ?_)
                    · (first | (refine fun b o hb _ => olds (Below.mono (B := wr.heap.size) ?_ y3) b o hb; (repeat (first | with_reducible exact Below.refl _ _ | with_reducible assumption | with_reducible refine Below.drew ?_ | with_reducible refine Below.alloc ?_ (by first | omega | (simp; done) | (simp; omega)) _ | with_reducible refine Below.setCell ?_ (by first | omega | (simp; done) | (simp; omega)) _)); done) | (refine fun b o hb _ => olds ?_ b o hb; (repeat (first | with_reducible exact Below.refl _ _ | with_reducible assumption | with_reducible refine Below.drew ?_ | with_reducible refine Below.alloc ?_ (by first | omega | (simp; done) | (simp; omega)) _ | with_reducible refine Below.setCell ?_ (by first | omega | (simp; done) | (simp; omega)) _)); done) | exact fun b o hb hne => (World.cell?_of_block (Below.heap_setCell _ _ _ _ hne)).trans (olds hb9 b o hb))
                    clear hK K
                    refine wpAnyH_done (by kernel_rfl) ?_ _
                    rw [Nat.zero_add] at hown4
                    have hlk : (qs.take k).length = k := by rw [List.length_take]; have := HLT.out; omega
                    have hAB : AsksAt wr B3 (.slice oa k oc) (qs.take k) os := by rw [HB3.out]; exact HA.out
                    have hA9 : AsksAt w9 B3 (.slice (some ⟨g9, 0, none⟩) (k + 1) cap9) (qs.take k ++ [(ai, av, an)]) (os ++ [(ai, .slice ra av.length rc, .slice (some ⟨g4, 0, none⟩) an.length cap4)]) := by
                      first
                        | refine AsksAt.round (a := (ai, av, an)) hAB hb4 hz1' (own_keptA ho1 hgr4) hown4 y3 ?_ (Nat.le_refl _) hgr9 hlk hown9
                        | refine AsksAt.round (a := (ai, av, an)) hAB hb4 hz1' (own_keptB ho1 hgr4) hown4 y3 ?_ (Nat.le_refl _) hgr9 hlk hown9
                        | refine AsksAt.round (a := (ai, av, an)) hAB hb1 hz1' ho1 (own_below hown4 hb1') y3 ?_ (Nat.le_refl _) hgr9 hlk hown9
                      first | exact Nat.le_refl _ | exact hz4 | simp
                    have hp := HB9.mk w.heap.size hb9 y0 y2 HB3.out HH0.out HH1.out HH2.out hA9 HBL.out
                    clear hA9 hAB hlk hown4 hown9 hgr4 hgr9 ho1 hb1 hb1' hb4 hb9 hat4 hat9
                    go_wp2
                    exact ⟨⟨k + 1, _, _, by have := HLT.out; omega, by go_num, hp.1, hp.2.1, hp.2.2.1, (by rw [HAQ.out, ← List.take_succ_eq_append_getElem HLT.out] at hp; exact hp.2.2.2.1), hp.2.2.2.2⟩, by have := HLT.out; simp [intOf]; omega⟩
                  exact AllReadyH.nil
                exact AllReadyH.nil
              exact AllReadyH.nil
            exact AllReadyH.nil
          exact AllReadyH.nil
        refine AllReadyH.cons rfl (fun K hK => ?_) ?_
        · go_simp; go_at_call 63; refine (copyRow _ _ av (HR2.out.mono (by repeat (first | with_reducible exact Below.refl _ _ | with_reducible assumption | with_reducible refine Below.drew ?_ | with_reducible refine Below.alloc ?_ (by first | omega | (simp; done) | (simp; omega)) _ | with_reducible refine Below.setCell ?_ (by first | omega | (simp; done) | (simp; omega)) _)))).mono ?_; rintro e w1 ⟨v1, zs1, rfl, hz1', ho1, hb1'⟩; have hb1 : Below wr.heap.size wr w1 := bthen (a := wr) (by repeat (first | with_reducible exact Below.refl _ _ | with_reducible assumption | with_reducible refine Below.drew ?_ | with_reducible refine Below.alloc ?_ (by first | omega | (simp; done) | (simp; omega)) _ | with_reducible refine Below.setCell ?_ (by first | omega | (simp; done) | (simp; omega)) _)) hb1'; obtain ⟨ra, rc, rfl⟩ := own_slice ho1; have hz1 := hb1.size; have e1_ : w1.cell? ⟨w.heap.size + 1 + 1, 0, none⟩ = some (.slice oa k oc) := (olds hb1 _ _ z2).trans e0; have zt1 : w.heap.size + 1 + 1 < w1.heap.size := Nat.lt_of_lt_of_le z2 hz1; dsimp only
          clear hHeld
          refine hK.out _ _ ?_ (fun hHeld => ?_)
          · (first | (refine fun b o hb _ => olds (Below.mono (B := wr.heap.size) ?_ y3) b o hb; (repeat (first | with_reducible exact Below.refl _ _ | with_reducible assumption | with_reducible refine Below.drew ?_ | with_reducible refine Below.alloc ?_ (by first | omega | (simp; done) | (simp; omega)) _ | with_reducible refine Below.setCell ?_ (by first | omega | (simp; done) | (simp; omega)) _)); done) | (refine fun b o hb _ => olds ?_ b o hb; (repeat (first | with_reducible exact Below.refl _ _ | with_reducible assumption | with_reducible refine Below.drew ?_ | with_reducible refine Below.alloc ?_ (by first | omega | (simp; done) | (simp; omega)) _ | with_reducible refine Below.setCell ?_ (by first | omega | (simp; done) | (simp; omega)) _)); done) | exact fun b o hb hne => (World.cell?_of_block (Below.heap_setCell _ _ _ _ hne)).trans (olds hb9 b o hb))
          clear hK K
          refine wpAnyH_ready (rs := [1, 22]) (by kernel_rfl) (by simp) ?_
          refine AllReadyH.cons rfl (fun K hK => ?_) ?_
          · go_simp
            clear hHeld
            refine hK.out _ _ ?_ (fun hHeld => ?_)
            · (first | (refine fun b o hb _ => olds (Below.mono (B := wr.heap.size) ?_ y3) b o hb; (repeat (first | with_reducible exact Below.refl _ _ | with_reducible assumption | with_reducible refine Below.drew ?_ | with_reducible refine Below.alloc ?_ (by first | omega | (simp; done) | (simp; omega)) _ | with_reducible refine Below.setCell ?_ (by first | omega | (simp; done) | (simp; omega)) _)); done) | (refine fun b o hb _ => olds ?_ b o hb; (repeat (first | with_reducible exact Below.refl _ _ | with_reducible assumption | with_reducible refine Below.drew ?_ | with_reducible refine Below.alloc ?_ (by first | omega | (simp; done) | (simp; omega)) _ | with_reducible refine Below.setCell ?_ (by first | omega | (simp; done) | (simp; omega)) _)); done) | exact fun b o hb hne => (World.cell?_of_block (Below.heap_setCell _ _ _ _ hne)).trans (olds hb9 b o hb))
            clear hK K
            refine wpAnyH_ready (rs := [22]) (by kernel_rfl) (by simp) ?_
            refine AllReadyH.cons rfl (fun K hK => ?_) ?_
            · refine step_append_lies _ (by rfl) _ _ _ (by rfl) wr.heap.size 3 i0 _ 1 8 und_ints Hi.out Hz0.out Hz1.out Hz2.out rfl (by decide) _ 0 [] (by rfl) (by first | exact own_new w1 wr.heap.size 3 1 0 [] (by first | omega | (simp; done) | (simp; omega)) rfl (by unfold maxLen; omega) | exact own_new wr.drew wr.heap.size 3 1 0 [] (by first | omega | (simp; done) | (simp; omega)) rfl (by unfold maxLen; omega) | exact own_below (own_new wr.drew wr.heap.size 3 1 0 [] (by first | omega | (simp; done) | (simp; omega)) rfl (by unfold maxLen; omega)) hb1') ⟨b7, o7, none⟩ an.length nc (ci an) (by rfl) (by simp [ci]) (ints_news (HR4.out.mono (by repeat (first | with_reducible exact Below.refl _ _ | with_reducible assumption | with_reducible refine Below.drew ?_ | with_reducible refine Below.alloc ?_ (by first | omega | (simp; done) | (simp; omega)) _ | with_reducible refine Below.setCell ?_ (by first | omega | (simp; done) | (simp; omega)) _)))) (ci_one an) han (by unfold maxLen; omega) (by omega) (by first | omega | (simp; done) | (simp; omega)) _ rfl ?_; intro g4 cap4 w4 hown4 hgr4 hat4 hgl4; have hb4 : Below wr.heap.size wr w4 := Below.grown (by repeat (first | with_reducible exact Below.refl _ _ | with_reducible assumption | with_reducible refine Below.drew ?_ | with_reducible refine Below.alloc ?_ (by first | omega | (simp; done) | (simp; omega)) _ | with_reducible refine Below.setCell ?_ (by first | omega | (simp; done) | (simp; omega)) _)) hgr4 (by first | omega | (simp; done) | (simp; omega)) (fun g hg => by cases hg; first | omega | (simp; done)); have hz4 := hb4.size; have e4_ : w4.cell? ⟨w.heap.size + 1 + 1, 0, none⟩ = some (.slice oa k oc) := (olds hb4 _ _ z2).trans e0; have zt4 : w.heap.size + 1 + 1 < w4.heap.size := Nat.lt_of_lt_of_le z2 hz4
              clear hHeld
              refine hK.out _ _ ?_ (fun hHeld => ?_)
              · (first | (refine fun b o hb _ => olds (Below.mono (B := wr.heap.size) ?_ y3) b o hb; (repeat (first | with_reducible exact Below.refl _ _ | with_reducible assumption | with_reducible refine Below.drew ?_ | with_reducible refine Below.alloc ?_ (by first | omega | (simp; done) | (simp; omega)) _ | with_reducible refine Below.setCell ?_ (by first | omega | (simp; done) | (simp; omega)) _)); done) | (refine fun b o hb _ => olds ?_ b o hb; (repeat (first | with_reducible exact Below.refl _ _ | with_reducible assumption | with_reducible refine Below.drew ?_ | with_reducible refine Below.alloc ?_ (by first | omega | (simp; done) | (simp; omega)) _ | with_reducible refine Below.setCell ?_ (by first | omega | (simp; done) | (simp; omega)) _)); done) | exact fun b o hb hne => (World.cell?_of_block (Below.heap_setCell _ _ _ _ hne)).trans (olds hb9 b o hb))
              clear hK K
              refine wpAnyH_take (i := 23) (v := ?_) rfl (by kernel_rfl) (by kernel_rfl) (by kernel_rfl) (fun _ _ _ h => h) (Or.inl ⟨by rfl, ?_⟩) (by assumption) ?_
              rotate_left
              · intro w hSw; (try dsimp only [List.getElem_toArray, List.getElem_cons_succ, List.getElem_cons_zero] at hSw ⊢); go_simp; (try with_reducible rfl)
              (try dsimp only [List.getElem_toArray, List.getElem_cons_succ, List.getElem_cons_zero]); (try simp only [Act.put, List.setIfInBounds_toArray, List.set_cons_zero, List.set_cons_succ])
              refine wpAnyH_ready (rs := [24]) (by kernel_rfl) (by simp) ?_
              refine AllReadyH.cons rfl (fun K hK => ?_) ?_
              · go_simp
                clear hHeld
                refine hK.out _ _ ?_ (fun hHeld => ?_)
                · (first | (refine fun b o hb _ => olds (Below.mono (B := wr.heap.size) ?_ y3) b o hb; (repeat (first | with_reducible exact Below.refl _ _ | with_reducible assumption | with_reducible refine Below.drew ?_ | with_reducible refine Below.alloc ?_ (by first | omega | (simp; done) | (simp; omega)) _ | with_reducible refine Below.setCell ?_ (by first | omega | (simp; done) | (simp; omega)) _)); done) | (refine fun b o hb _ => olds ?_ b o hb; (repeat (first | with_reducible exact Below.refl _ _ | with_reducible assumption | with_reducible refine Below.drew ?_ | with_reducible refine Below.alloc ?_ (by first | omega | (simp; done) | (simp; omega)) _ | with_reducible refine Below.setCell ?_ (by first | omega | (simp; done) | (simp; omega)) _)); done) | exact fun b o hb hne => (World.cell?_of_block (Below.heap_setCell _ _ _ _ hne)).trans (olds hb9 b o hb))
                clear hK K
                refine wpAnyH_ready (rs := [25]) (by kernel_rfl) (by simp) ?_
                refine AllReadyH.cons rfl (fun K hK => ?_) ?_
                · refine step_append_lies _ (by rfl) _ _ _ (by rfl) B3 59 j0 _ 3 56 und_asks Ji.out Jz0.out Jz1.out Jz2.out rfl (by decide) _ k (os.flatMap askC) (by rfl) (own_below HOWN.out (by repeat (first | with_reducible exact Below.refl _ _ | with_reducible assumption | with_reducible refine Below.drew ?_ | with_reducible refine Below.alloc ?_ (by first | omega | (simp; done) | (simp; omega)) _ | with_reducible refine Below.setCell ?_ (by first | omega | (simp; done) | (simp; omega)) _))) ⟨_, 0, none⟩ 1 1 (askC (ai, .slice ra av.length rc, .slice (some ⟨g4, 0, none⟩) an.length cap4)) (by rfl) rfl (One.cells (heap_alloc_new _ _)) (by intro u hu; simp [askC] at hu; rcases hu with rfl | rfl | rfl <;> rfl) (by decide) (by unfold maxLen; omega) (by omega) (by first | omega | (simp; done) | (simp; omega)) _ rfl ?_; intro g9 cap9 w9 hown9 hgr9 hat9 hgl9; have hb9 : Below B3 wr w9 := Below.grown (Below.mono (by repeat (first | with_reducible exact Below.refl _ _ | with_reducible assumption | with_reducible refine Below.drew ?_ | with_reducible refine Below.alloc ?_ (by first | omega | (simp; done) | (simp; omega)) _ | with_reducible refine Below.setCell ?_ (by first | omega | (simp; done) | (simp; omega)) _)) y3) hgr9 (by first | omega | (simp; done) | (simp; omega)) (fun g hg => (HOWN.out.lt g hg).1); have e9 : w9.cell? ⟨w.heap.size + 1 + 1, 0, none⟩ = some (.slice oa k oc) := (olds hb9 _ _ y2).trans e0; have f9 : w9.frozen? ⟨w.heap.size + 1 + 1, 0, none⟩ = false := (oldf hb9 _ _ y2).trans (f2 0)
                  clear hHeld
                  refine hK.out _ _ ?_ (fun hHeld => ?_)
                  · (first | (refine fun b o hb _ => olds (Below.mono (B := wr.heap.size) ?_ y3) b o hb; (repeat (first | with_reducible exact Below.refl _ _ | with_reducible assumption | with_reducible refine Below.drew ?_ | with_reducible refine Below.alloc ?_ (by first | omega | (simp; done) | (simp; omega)) _ | with_reducible refine Below.setCell ?_ (by first | omega | (simp; done) | (simp; omega)) _)); done) | (refine fun b o hb _ => olds ?_ b o hb; (repeat (first | with_reducible exact Below.refl _ _ | with_reducible assumption | with_reducible refine Below.drew ?_ | with_reducible refine Below.alloc ?_ (by first | omega | (simp; done) | (simp; omega)) _ | with_reducible refine Below.setCell ?_ (by first | omega | (simp; done) | (simp; omega)) _)); done) | exact fun b o hb hne => (World.cell?_of_block (Below.heap_setCell _ _ _ _ hne)).trans (olds hb9 b o hb))
                  clear hK K
                  refine wpAnyH_take (i := 26) (v := ?_) rfl (by kernel_rfl) (by kernel_rfl) (by kernel_rfl) (fun _ _ _ h => h) (Or.inl ⟨by rfl, ?_⟩) (by assumption) ?_
                  rotate_left
                  · intro w hSw; (try dsimp only [List.getElem_toArray, List.getElem_cons_succ, List.getElem_cons_zero] at hSw ⊢); go_simp; (try with_reducible rfl)
                  (try dsimp only [List.getElem_toArray, List.getElem_cons_succ, List.getElem_cons_zero]); (try simp only [Act.put, List.setIfInBounds_toArray, List.set_cons_zero, List.set_cons_succ])
                  refine wpAnyH_ready (rs := [27]) (by kernel_rfl) (by simp) ?_
                  refine AllReadyH.cons rfl (fun K hK => ?_) ?_
                  · go_simp
                    clear hHeld
                    refine hK.out _ _ ?_ (fun hHeld => ?_)
                    · (first | (refine fun b o hb _ => olds (Below.mono (B := wr.heap.size) ?_ y3) b o hb; (repeat (first | with_reducible exact Below.refl _ _ | with_reducible assumption | with_reducible refine Below.drew ?_ | with_reducible refine Below.alloc ?_ (by first | omega | (simp; done) | (simp; omega)) _ | with_reducible refine Below.setCell ?_ (by first | omega | (simp; done) | (simp; omega)) _)); done) | (refine fun b o hb _ => olds ?_ b o hb; (repeat (first | with_reducible exact Below.refl _ _ | with_reducible assumption | with_reducible refine Below.drew ?_ | with_reducible refine Below.alloc ?_ (by first | omega | (simp; done) | (simp; omega)) _ | with_reducible refine Below.setCell ?_ (by first | omega | (simp; done) | (simp; omega)) _)); done) | exact fun b o hb hne => (World.cell?_of_block (Below.heap_setCell _ _ _ _ hne)).trans (olds hb9 b o hb))
                    clear hK K
                    refine wpAnyH_done (by kernel_rfl) ?_ _
                    rw [Nat.zero_add] at hown4
                    have hlk : (qs.take k).length = k := by rw [List.length_take]; have := HLT.out; omega
                    have hAB : AsksAt wr B3 (.slice oa k oc) (qs.take k) os := by rw [HB3.out]; exact HA.out
                    have hA9 : AsksAt w9 B3 (.slice (some ⟨g9, 0, none⟩) (k + 1) cap9) (qs.take k ++ [(ai, av, an)]) (os ++ [(ai, .slice ra av.length rc, .slice (some ⟨g4, 0, none⟩) an.length cap4)]) := by
                      first
                        | refine AsksAt.round (a := (ai, av, an)) hAB hb4 hz1' (own_keptA ho1 hgr4) hown4 y3 ?_ (Nat.le_refl _) hgr9 hlk hown9
                        | refine AsksAt.round (a := (ai, av, an)) hAB hb4 hz1' (own_keptB ho1 hgr4) hown4 y3 ?_ (Nat.le_refl _) hgr9 hlk hown9
                        | refine AsksAt.round (a := (ai, av, an)) hAB hb1 hz1' ho1 (own_below hown4 hb1') y3 ?_ (Nat.le_refl _) hgr9 hlk hown9
                      first | exact Nat.le_refl _ | exact hz4 | simp
                    have hp := HB9.mk w.heap.size hb9 y0 y2 HB3.out HH0.out HH1.out HH2.out hA9 HBL.out
                    clear hA9 hAB hlk hown4 hown9 hgr4 hgr9 ho1 hb1 hb1' hb4 hb9 hat4 hat9
                    go_wp2
                    exact ⟨⟨k + 1, _, _, by have := HLT.out; omega, by go_num, hp.1, hp.2.1, hp.2.2.1, (by rw [HAQ.out, ← List.take_succ_eq_append_getElem HLT.out] at hp; exact hp.2.2.2.1), hp.2.2.2.2⟩, by have := HLT.out; simp [intOf]; omega⟩
                  exact AllReadyH.nil
                exact AllReadyH.nil
              exact AllReadyH.nil
            exact AllReadyH.nil
          refine AllReadyH.cons rfl (fun K hK => ?_) ?_
          · refine step_append_lies _ (by rfl) _ _ _ (by rfl) wr.heap.size 3 i0 _ 1 8 und_ints Hi.out Hz0.out Hz1.out Hz2.out rfl (by decide) _ 0 [] (by rfl) (by first | exact own_new w1 wr.heap.size 3 1 0 [] (by first | omega | (simp; done) | (simp; omega)) rfl (by unfold maxLen; omega) | exact own_new wr.drew wr.heap.size 3 1 0 [] (by first | omega | (simp; done) | (simp; omega)) rfl (by unfold maxLen; omega) | exact own_below (own_new wr.drew wr.heap.size 3 1 0 [] (by first | omega | (simp; done) | (simp; omega)) rfl (by unfold maxLen; omega)) hb1') ⟨b7, o7, none⟩ an.length nc (ci an) (by rfl) (by simp [ci]) (ints_news (HR4.out.mono (by repeat (first | with_reducible exact Below.refl _ _ | with_reducible assumption | with_reducible refine Below.drew ?_ | with_reducible refine Below.alloc ?_ (by first | omega | (simp; done) | (simp; omega)) _ | with_reducible refine Below.setCell ?_ (by first | omega | (simp; done) | (simp; omega)) _)))) (ci_one an) han (by unfold maxLen; omega) (by omega) (by first | omega | (simp; done) | (simp; omega)) _ rfl ?_; intro g4 cap4 w4 hown4 hgr4 hat4 hgl4; have hb4 : Below wr.heap.size wr w4 := Below.grown (by repeat (first | with_reducible exact Below.refl _ _ | with_reducible assumption | with_reducible refine Below.drew ?_ | with_reducible refine Below.alloc ?_ (by first | omega | (simp; done) | (simp; omega)) _ | with_reducible refine Below.setCell ?_ (by first | omega | (simp; done) | (simp; omega)) _)) hgr4 (by first | omega | (simp; done) | (simp; omega)) (fun g hg => by cases hg; first | omega | (simp; done)); have hz4 := hb4.size; have e4_ : w4.cell? ⟨w.heap.size + 1 + 1, 0, none⟩ = some (.slice oa k oc) := (olds hb4 _ _ z2).trans e0; have zt4 : w.heap.size + 1 + 1 < w4.heap.size := Nat.lt_of_lt_of_le z2 hz4
            clear hHeld
            refine hK.out _ _ ?_ (fun hHeld => ?_)
            · (first | (refine fun b o hb _ => olds (Below.mono (B := wr.heap.size) ?_ y3) b o hb; (repeat (first | with_reducible exact Below.refl _ _ | with_reducible assumption | with_reducible refine Below.drew ?_ | with_reducible refine Below.alloc ?_ (by first | omega | (simp; done) | (simp; omega)) _ | with_reducible refine Below.setCell ?_ (by first | omega | (simp; done) | (simp; omega)) _)); done) | (refine fun b o hb _ => olds ?_ b o hb; (repeat (first | with_reducible exact Below.refl _ _ | with_reducible assumption | with_reducible refine Below.drew ?_ | with_reducible refine Below.alloc ?_ (by first | omega | (simp; done) | (simp; omega)) _ | with_reducible refine Below.setCell ?_ (by first | omega | (simp; done) | (simp; omega)) _)); done) | exact fun b o hb hne => (World.cell?_of_block (Below.heap_setCell _ _ _ _ hne)).trans (olds hb9 b o hb))
            clear hK K
            refine wpAnyH_take (i := 23) (v := ?_) rfl (by kernel_rfl) (by kernel_rfl) (by kernel_rfl) (fun _ _ _ h => h) (Or.inl ⟨by rfl, ?_⟩) (by assumption) ?_
            rotate_left
            · intro w hSw; (try dsimp only [List.getElem_toArray, List.getElem_cons_succ, List.getElem_cons_zero] at hSw ⊢); go_simp; (try with_reducible rfl)
            (try dsimp only [List.getElem_toArray, List.getElem_cons_succ, List.getElem_cons_zero]); (try simp only [Act.put, List.setIfInBounds_toArray, List.set_cons_zero, List.set_cons_succ])
            refine wpAnyH_ready (rs := [1, 24]) (by kernel_rfl) (by simp) ?_
            refine AllReadyH.cons rfl (fun K hK => ?_) ?_
            · go_simp
              clear hHeld
              refine hK.out _ _ ?_ (fun hHeld => ?_)
              · (first | (refine fun b o hb _ => olds (Below.mono (B := wr.heap.size) ?_ y3) b o hb; (repeat (first | with_reducible exact Below.refl _ _ | with_reducible assumption | with_reducible refine Below.drew ?_ | with_reducible refine Below.alloc ?_ (by first | omega | (simp; done) | (simp; omega)) _ | with_reducible refine Below.setCell ?_ (by first | omega | (simp; done) | (simp; omega)) _)); done) | (refine fun b o hb _ => olds ?_ b o hb; (repeat (first | with_reducible exact Below.refl _ _ | with_reducible assumption | with_reducible refine Below.drew ?_ | with_reducible refine Below.alloc ?_ (by first | omega | (simp; done) | (simp; omega)) _ | with_reducible refine Below.setCell ?_ (by first | omega | (simp; done) | (simp; omega)) _)); done) | exact fun b o hb hne => (World.cell?_of_block (Below.heap_setCell _ _ _ _ hne)).trans (olds hb9 b o hb))
              clear hK K
              refine wpAnyH_ready (rs := [24]) (by kernel_rfl) (by simp) ?_
              refine AllReadyH.cons rfl (fun K hK => ?_) ?_
              · go_simp
                clear hHeld
                refine hK.out _ _ ?_ (fun hHeld => ?_)
                · (first | (refine fun b o hb _ => olds (Below.mono (B := wr.heap.size) ?_ y3) b o hb; (repeat (first | with_reducible exact Below.refl _ _ | with_reducible assumption | with_reducible refine Below.drew ?_ | with_reducible refine Below.alloc ?_ (by first | omega | (simp; done) | (simp; omega)) _ | with_reducible refine Below.setCell ?_ (by first | omega | (simp; done) | (simp; omega)) _)); done) | (refine fun b o hb _ => olds ?_ b o hb; (repeat (first | with_reducible exact Below.refl _ _ | with_reducible assumption | with_reducible refine Below.drew ?_ | with_reducible refine Below.alloc ?_ (by first | omega | (simp; done) | (simp; omega)) _ | with_reducible refine Below.setCell ?_ (by first | omega | (simp; done) | (simp; omega)) _)); done) | exact fun b o hb hne => (World.cell?_of_block (Below.heap_setCell _ _ _ _ hne)).trans (olds hb9 b o hb))
                clear hK K
                refine wpAnyH_ready (rs := [25]) (by kernel_rfl) (by simp) ?_
                refine AllReadyH.cons rfl (fun K hK => ?_) ?_
                · refine step_append_lies _ (by rfl) _ _ _ (by rfl) B3 59 j0 _ 3 56 und_asks Ji.out Jz0.out Jz1.out Jz2.out rfl (by decide) _ k (os.flatMap askC) (by rfl) (own_below HOWN.out (by repeat (first | with_reducible exact Below.refl _ _ | with_reducible assumption | with_reducible refine Below.drew ?_ | with_reducible refine Below.alloc ?_ (by first | omega | (simp; done) | (simp; omega)) _ | with_reducible refine Below.setCell ?_ (by first | omega | (simp; done) | (simp; omega)) _))) ⟨_, 0, none⟩ 1 1 (askC (ai, .slice ra av.length rc, .slice (some ⟨g4, 0, none⟩) an.length cap4)) (by rfl) rfl (One.cells (heap_alloc_new _ _)) (by intro u hu; simp [askC] at hu; rcases hu with rfl | rfl | rfl <;> rfl) (by decide) (by unfold maxLen; omega) (by omega) (by first | omega | (simp; done) | (simp; omega)) _ rfl ?_; intro g9 cap9 w9 hown9 hgr9 hat9 hgl9; have hb9 : Below B3 wr w9 := Below.grown (Below.mono (by repeat (first | with_reducible exact Below.refl _ _ | with_reducible assumption | with_reducible refine Below.drew ?_ | with_reducible refine Below.alloc ?_ (by first | omega | (simp; done) | (simp; omega)) _ | with_reducible refine Below.setCell ?_ (by first | omega | (simp; done) | (simp; omega)) _)) y3) hgr9 (by first | omega | (simp; done) | (simp; omega)) (fun g hg => (HOWN.out.lt g hg).1); have e9 : w9.cell? ⟨w.heap.size + 1 + 1, 0, none⟩ = some (.slice oa k oc) := (olds hb9 _ _ y2).trans e0; have f9 : w9.frozen? ⟨w.heap.size + 1 + 1, 0, none⟩ = false := (oldf hb9 _ _ y2).trans (f2 0)
                  clear hHeld
                  refine hK.out _ _ ?_ (fun hHeld => ?_)
                  · (first | (refine fun b o hb _ => olds (Below.mono (B := wr.heap.size) ?_ y3) b o hb; (repeat (first | with_reducible exact Below.refl _ _ | with_reducible assumption | with_reducible refine Below.drew ?_ | with_reducible refine Below.alloc ?_ (by first | omega | (simp; done) | (simp; omega)) _ | with_reducible refine Below.setCell ?_ (by first | omega | (simp; done) | (simp; omega)) _)); done) | (refine fun b o hb _ => olds ?_ b o hb; (repeat (first | with_reducible exact Below.refl _ _ | with_reducible assumption | with_reducible refine Below.drew ?_ | with_reducible refine Below.alloc ?_ (by first | omega | (simp; done) | (simp; omega)) _ | with_reducible refine Below.setCell ?_ (by first | omega | (simp; done) | (simp; omega)) _)); done) | exact fun b o hb hne => (World.cell?_of_block (Below.heap_setCell _ _ _ _ hne)).trans (olds hb9 b o hb))
                  clear hK K
                  refine wpAnyH_take (i := 26) (v := ?_) rfl (by kernel_rfl) (by kernel_rfl) (by kernel_rfl) (fun _ _ _ h => h) (Or.inl ⟨by rfl, ?_⟩) (by assumption) ?_
                  rotate_left
                  · intro w hSw; (try dsimp only [List.getElem_toArray, List.getElem_cons_succ, List.getElem_cons_zero] at hSw ⊢); go_simp; (try with_reducible rfl)
                  (try dsimp only [List.getElem_toArray, List.getElem_cons_succ, List.getElem_cons_zero]); (try simp only [Act.put, List.setIfInBounds_toArray, List.set_cons_zero, List.set_cons_succ])
                  refine wpAnyH_ready (rs := [27]) (by kernel_rfl) (by simp) ?_
                  refine AllReadyH.cons rfl (fun K hK => ?_) ?_
                  · go_simp
                    clear hHeld
                    refine hK.out _ _ ?_ (fun hHeld => ?_)
                    · (first | (refine fun b o hb _ => olds (Below.mono (B := wr.heap.size) ?_ y3) b o hb; (repeat (first | with_reducible exact Below.refl _ _ | with_reducible assumption | with_reducible refine Below.drew ?_ | with_reducible refine Below.alloc ?_ (by first | omega | (simp; done) | (simp; omega)) _ | with_reducible refine Below.setCell ?_ (by first | omega | (simp; done) | (simp; omega)) _)); done) | (refine fun b o hb _ => olds ?_ b o hb; (repeat (first | with_reducible exact Below.refl _ _ | with_reducible assumption | with_reducible refine Below.drew ?_ | with_reducible refine Below.alloc ?_ (by first | omega | (simp; done) | (simp; omega)) _ | with_reducible refine Below.setCell ?_ (by first | omega | (simp; done) | (simp; omega)) _)); done) | exact fun b o hb hne => (World.cell?_of_block (Below.heap_setCell _ _ _ _ hne)).trans (olds hb9 b o hb))
                    clear hK K
                    refine wpAnyH_done (by kernel_rfl) ?_ _
                    rw [Nat.zero_add] at hown4
                    have hlk : (qs.take k).length = k := by rw [List.length_take]; have := HLT.out; omega
                    have hAB : AsksAt wr B3 (.slice oa k oc) (qs.take k) os := by rw [HB3.out]; exact HA.out
                    have hA9 : AsksAt w9 B3 (.slice (some ⟨g9, 0, none⟩) (k + 1) cap9) (qs.take k ++ [(ai, av, an)]) (os ++ [(ai, .slice ra av.length rc, .slice (some ⟨g4, 0, none⟩) an.length cap4)]) := by
                      first
                        | refine AsksAt.round (a := (ai, av, an)) hAB hb4 hz1' (own_keptA ho1 hgr4) hown4 y3 ?_ (Nat.le_refl _) hgr9 hlk hown9
                        | refine AsksAt.round (a := (ai, av, an)) hAB hb4 hz1' (own_keptB ho1 hgr4) hown4 y3 ?_ (Nat.le_refl _) hgr9 hlk hown9
                        | refine AsksAt.round (a := (ai, av, an)) hAB hb1 hz1' ho1 (own_below hown4 hb1') y3 ?_ (Nat.le_refl _) hgr9 hlk hown9
                      first | exact Nat.le_refl _ | exact hz4 | simp
                    have hp := HB9.mk w.heap.size hb9 y0 y2 HB3.out HH0.out HH1.out HH2.out hA9 HBL.out
                    clear hA9 hAB hlk hown4 hown9 hgr4 hgr9 ho1 hb1 hb1' hb4 hb9 hat4 hat9
                    go_wp2
                    exact ⟨⟨k + 1, _, _, by have := HLT.out; omega, by go_num, hp.1, hp.2.1, hp.2.2.1, (by rw [HAQ.out, ← List.take_succ_eq_append_getElem HLT.out] at hp; exact hp.2.2.2.1), hp.2.2.2.2⟩, by have := HLT.out; simp [intOf]; omega⟩
                  exact AllReadyH.nil
                exact AllReadyH.nil
              exact AllReadyH.nil
            refine AllReadyH.cons rfl (fun K hK => ?_) ?_
            · go_simp
              clear hHeld
              refine hK.out _ _ ?_ (fun hHeld => ?_)
              · (first | (refine fun b o hb _ => olds (Below.mono (B := wr.heap.size) ?_ y3) b o hb; (repeat (first | with_reducible exact Below.refl _ _ | with_reducible assumption | with_reducible refine Below.drew ?_ | with_reducible refine Below.alloc ?_ (by first | omega | (simp; done) | (simp; omega)) _ | with_reducible refine Below.setCell ?_ (by first | omega | (simp; done) | (simp; omega)) _)); done) | (refine fun b o hb _ => olds ?_ b o hb; (repeat (first | with_reducible exact Below.refl _ _ | with_reducible assumption | with_reducible refine Below.drew ?_ | with_reducible refine Below.alloc ?_ (by first | omega | (simp; done) | (simp; omega)) _ | with_reducible refine Below.setCell ?_ (by first | omega | (simp; done) | (simp; omega)) _)); done) | exact fun b o hb hne => (World.cell?_of_block (Below.heap_setCell _ _ _ _ hne)).trans (olds hb9 b o hb))
              clear hK K
              refine wpAnyH_ready (rs := [1]) (by kernel_rfl) (by simp) ?_
              refine AllReadyH.cons rfl (fun K hK => ?_) ?_
              · go_simp
                clear hHeld
                refine hK.out _ _ ?_ (fun hHeld => ?_)
                · (first | (refine fun b o hb _ => olds (Below.mono (B := wr.heap.size) ?_ y3) b o hb; (repeat (first | with_reducible exact Below.refl _ _ | with_reducible assumption | with_reducible refine Below.drew ?_ | with_reducible refine Below.alloc ?_ (by first | omega | (simp; done) | (simp; omega)) _ | with_reducible refine Below.setCell ?_ (by first | omega | (simp; done) | (simp; omega)) _)); done) | (refine fun b o hb _ => olds ?_ b o hb; (repeat (first | with_reducible exact Below.refl _ _ | with_reducible assumption | with_reducible refine Below.drew ?_ | with_reducible refine Below.alloc ?_ (by first | omega | (simp; done) | (simp; omega)) _ | with_reducible refine Below.setCell ?_ (by first | omega | (simp; done) | (simp; omega)) _)); done) | exact fun b o hb hne => (World.cell?_of_block (Below.heap_setCell _ _ _ _ hne)).trans (olds hb9 b o hb))
                clear hK K
                refine wpAnyH_ready (rs := [25]) (by kernel_rfl) (by simp) ?_
                refine AllReadyH.cons rfl (fun K hK => ?_) ?_
                · refine step_append_lies _ (by rfl) _ _ _ (by rfl) B3 59 j0 _ 3 56 und_asks Ji.out Jz0.out Jz1.out Jz2.out rfl (by decide) _ k (os.flatMap askC) (by rfl) (own_below HOWN.out (by repeat (first | with_reducible exact Below.refl _ _ | with_reducible assumption | with_reducible refine Below.drew ?_ | with_reducible refine Below.alloc ?_ (by first | omega | (simp; done) | (simp; omega)) _ | with_reducible refine Below.setCell ?_ (by first | omega | (simp; done) | (simp; omega)) _))) ⟨_, 0, none⟩ 1 1 (askC (ai, .slice ra av.length rc, .slice (some ⟨g4, 0, none⟩) an.length cap4)) (by rfl) rfl (One.cells (heap_alloc_new _ _)) (by intro u hu; simp [askC] at hu; rcases hu with rfl | rfl | rfl <;> rfl) (by decide) (by unfold maxLen; omega) (by omega) (by first | omega | (simp; done) | (simp; omega)) _ rfl ?_; intro g9 cap9 w9 hown9 hgr9 hat9 hgl9; have hb9 : Below B3 wr w9 := Below.grown (Below.mono (by repeat (first | with_reducible exact Below.refl _ _ | with_reducible assumption | with_reducible refine Below.drew ?_ | with_reducible refine Below.alloc ?_ (by first | omega | (simp; done) | (simp; omega)) _ | with_reducible refine Below.setCell ?_ (by first | omega | (simp; done) | (simp; omega)) _)) y3) hgr9 (by first | omega | (simp; done) | (simp; omega)) (fun g hg => (HOWN.out.lt g hg).1); have e9 : w9.cell? ⟨w.heap.size + 1 + 1, 0, none⟩ = some (.slice oa k oc) := (olds hb9 _ _ y2).trans e0; have f9 : w9.frozen? ⟨w.heap.size + 1 + 1, 0, none⟩ = false := (oldf hb9 _ _ y2).trans (f2 0)
                  clear hHeld
                  refine hK.out _ _ ?_ (fun hHeld => ?_)
                  · (first | (refine fun b o hb _ => olds (Below.mono (B := wr.heap.size) ?_ y3) b o hb; (repeat (first | with_reducible exact Below.refl _ _ | with_reducible assumption | with_reducible refine Below.drew ?_ | with_reducible refine Below.alloc ?_ (by first | omega | (simp; done) | (simp; omega)) _ | with_reducible refine Below.setCell ?_ (by first | omega | (simp; done) | (simp; omega)) _)); done) | (refine fun b o hb _ => olds ?_ b o hb; (repeat (first | with_reducible exact Below.refl _ _ | with_reducible assumption | with_reducible refine Below.drew ?_ | with_reducible refine Below.alloc ?_ (by first | omega | (simp; done) | (simp; omega)) _ | with_reducible refine Below.setCell ?_ (by first | omega | (simp; done) | (simp; omega)) _)); done) | exact fun b o hb hne => (World.cell?_of_block (Below.heap_setCell _ _ _ _ hne)).trans (olds hb9 b o hb))
                  clear hK K
                  refine wpAnyH_take (i := 26) (v := ?_) rfl (by kernel_rfl) (by kernel_rfl) (by kernel_rfl) (fun _ _ _ h => h) (Or.inl ⟨by rfl, ?_⟩) (by assumption) ?_
                  rotate_left
                  · intro w hSw; (try dsimp only [List.getElem_toArray, List.getElem_cons_succ, List.getElem_cons_zero] at hSw ⊢); go_simp; (try with_reducible rfl)
                  (try dsimp only [List.getElem_toArray, List.getElem_cons_succ, List.getElem_cons_zero]); (try simp only [Act.put, List.setIfInBounds_toArray, List.set_cons_zero, List.set_cons_succ])
                  refine wpAnyH_ready (rs := [27]) (by kernel_rfl) (by simp) ?_
                  refine AllReadyH.cons rfl (fun K hK => ?_) ?_
                  · go_simp
                    clear hHeld
                    refine hK.out _ _ ?_ (fun hHeld => ?_)
                    · (first | (refine fun b o hb _ => olds (Below.mono (B := wr.heap.size) ?_ y3) b o hb; (repeat (first | with_reducible exact Below.refl _ _ | with_reducible assumption | with_reducible refine Below.drew ?_ | with_reducible refine Below.alloc ?_ (by first | omega | (simp; done) | (simp; omega)) _ | with_reducible refine Below.setCell ?_ (by first | omega | (simp; done) | (simp; omega)) _)); done) | (refine fun b o hb _ => olds ?_ b o hb; (repeat (first | with_reducible exact Below.refl _ _ | with_reducible assumption | with_reducible refine Below.drew ?_ | with_reducible refine Below.alloc ?_ (by first | omega | (simp; done) | (simp; omega)) _ | with_reducible refine Below.setCell ?_ (by first | omega | (simp; done) | (simp; omega)) _)); done) | exact fun b o hb hne => (World.cell?_of_block (Below.heap_setCell _ _ _ _ hne)).trans (olds hb9 b o hb))
                    clear hK K
                    refine wpAnyH_done (by kernel_rfl) ?_ _
                    rw [Nat.zero_add] at hown4
                    have hlk : (qs.take k).length = k := by rw [List.length_take]; have := HLT.out; omega
                    have hAB : AsksAt wr B3 (.slice oa k oc) (qs.take k) os := by rw [HB3.out]; exact HA.out
                    have hA9 : AsksAt w9 B3 (.slice (some ⟨g9, 0, none⟩) (k + 1) cap9) (qs.take k ++ [(ai, av, an)]) (os ++ [(ai, .slice ra av.length rc, .slice (some ⟨g4, 0, none⟩) an.length cap4)]) := by
                      first
                        | refine AsksAt.round (a := (ai, av, an)) hAB hb4 hz1' (own_keptA ho1 hgr4) hown4 y3 ?_ (Nat.le_refl _) hgr9 hlk hown9
                        | refine AsksAt.round (a := (ai, av, an)) hAB hb4 hz1' (own_keptB ho1 hgr4) hown4 y3 ?_ (Nat.le_refl _) hgr9 hlk hown9
                        | refine AsksAt.round (a := (ai, av, an)) hAB hb1 hz1' ho1 (own_below hown4 hb1') y3 ?_ (Nat.le_refl _) hgr9 hlk hown9
                      first | exact Nat.le_refl _ | exact hz4 | simp
                    have hp := HB9.mk w.heap.size hb9 y0 y2 HB3.out HH0.out HH1.out HH2.out hA9 HBL.out
                    clear hA9 hAB hlk hown4 hown9 hgr4 hgr9 ho1 hb1 hb1' hb4 hb9 hat4 hat9
                    go_wp2
                    exact ⟨⟨k + 1, _, _, by have := HLT.out; omega, by go_num, hp.1, hp.2.1, hp.2.2.1, (by rw [HAQ.out, ← List.take_succ_eq_append_getElem HLT.out] at hp; exact hp.2.2.2.1), hp.2.2.2.2⟩, by have := HLT.out; simp [intOf]; omega⟩
                  exact AllReadyH.nil
                exact AllReadyH.nil
              exact AllReadyH.nil
            exact AllReadyH.nil
          exact AllReadyH.nil
        exact AllReadyH.nil
      exact AllReadyH.nil
    · obtain rfl : k = qs.length := by omega
      have n1 : ¬ ((qs.length : Int) < qs.length) := by omega
      clear hh0 hh1 hh2 hA hbel hlt
      go_wp2
      refine bodyPost_ret (v := .agg #[.slice oa qs.length oc, .int .i64 dp, .int .i64 lo]) ?_ rfl ?_
      · simp [results, Tryz.results31, go_sem, e0, e1, e2, f2, d0, d1, d2, fd, z1, z2]
      · refine ⟨_, rfl, ⟨.slice oa qs.length oc, os, rfl, ?_⟩, ?_⟩
        · have ha := HA.out
          rw [List.take_length] at ha
          exact (((ha.setlow (by omega)).setlow (by omega)).setlow (by omega)).base (by omega)
        · have hb := HBL.out
          exact (by repeat (first | with_reducible exact Below.refl _ _ | with_reducible assumption | with_reducible refine Below.drew ?_ | with_reducible refine Below.alloc ?_ (by first | omega | (simp; done) | (simp; omega)) _ | with_reducible refine Below.setCell ?_ (by first | omega | (simp; done) | (simp; omega)) _))
end Go.Proofs.YtoiemkifgdnhaaaGreatDoor
