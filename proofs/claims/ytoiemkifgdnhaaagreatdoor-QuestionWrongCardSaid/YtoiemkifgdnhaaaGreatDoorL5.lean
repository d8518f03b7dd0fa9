/- Copying into a row that a call owns; what slices.Insert leaves. No conditions.
  slices.Insert of one element into a row that a call owns. Conditions: at most 1000 elements.
  append onto a call's own row: what comes lies where it lay, or is new. No conditions. -/
import Derived.Test.YtoiemkifgdnhaaaGreatDoorL1
import Derived.Shelf.Spec.SlicesInsert
import Derived.Lib.AppendZerosOnto
import Derived.Deep.RegionLaw
namespace Go.Proofs.YtoiemkifgdnhaaaGreatDoor
open Go Go.RowKit
section
variable {P : Program}
theorem run_copyR (w : World) (dT sT ty elem : TypeId) (sz g o dLen dCap : Nat) (a : Addr) (sLen sCap : Nat) (cur : Array Value) (t : TypeId) (cs : List Value) (n : Nat)
    (hu : P.underlying dT = some (.slice elem)) (hs : (P.info? elem).map (·.size) = some sz)
    (hg : w.heap[g]? = some (.cells cur t (0, 0))) (hn : n = Nat.min sLen dLen) (hl : cs.length = n * sz)
    (hsrc : ∀ j v, cs[j]? = some v → w.cell? (a.add j) = some v) (hfit : o + cs.length ≤ cur.size) (h1 : ∀ v ∈ cs, v.oneCell' = true) :
    (Builtin.copy_ #[dT, sT] ty #[.slice (some ⟨g, o, none⟩) dLen dCap, .slice (some a) sLen sCap]).run P w =
      .ok (goInt n) (w.setRow g (cur.toList.take o ++ cs ++ cur.toList.drop (o + cs.length)).toArray) := by
  have hl2 := run_firstCells_some (P := P) w sz n a sLen sCap cs hl hsrc
  have hst := run_storeCells_at P g o t cs 0 cur w hg (by simpa using hfit) h1
  cases hq : P.info? elem with
  | none => simp [hq] at hs
  | some i =>
    have hi : i.size = sz := by simpa [hq] using hs
    simp [Builtin.copy_, run_underlying hu, Builtin.lenOf, sizeOf, typeInfo, hq, hi, ← hn, hl2, hst]
end
theorem setRow_heap {w : World} {g : Nat} {cur cs : Array Value} {t : TypeId} (hg : w.heap[g]? = some (.cells cur t (0, 0))) : (w.setRow g cs).heap[g]? = some (.cells cs t (0, 0)) := by
  simp [World.setRow, Array.getElem?_modify, hg]
theorem setRow_other {w : World} {g k : Nat} {cs : Array Value} (h : k ≠ g) : (w.setRow g cs).heap[k]? = w.heap[k]? := by
  simp only [World.setRow, Array.getElem?_modify]; rw [if_neg (Ne.symm h)]
section
variable {P : Program}
theorem wp_append_run (w : World) {o : Oper} {a : Act} {K : Act → World → Prop} {Q : Exit → Act → World → Prop} (d s : Operand) (t t' : TypeId)
    (ho : o.op = .call { callee := .builtin .append, args := #[d, s], argTypes := #[t, t'] }) (v u : Value) (hd : a.eval d = v) (hs : a.eval s = u) {v' : Value} {w' : World}
    (hr : (Builtin.append_ #[t, t'] o.type #[v, u]).run P w = .ok v' w') (h : K (a.put o.dst v') w') : o.wp P a w K Q := by
  unfold Oper.wp execOp
  simp only [ho, resolve, invoke, builtin, Sem.run_bind, Sem.run_pure, Result.andThen_ok, List.map_toArray, List.map_cons, List.map_nil, hd, hs, hr]
  exact h
theorem wpList_append_run (w : World) {ops : Array Oper} {rest : List Oper} {o : Oper} {a : Act} {Q : Exit → Act → World → Prop} (hgd : o.guard = none) (d s : Operand) (t t' : TypeId)
    (ho : o.op = .call { callee := .builtin .append, args := #[d, s], argTypes := #[t, t'] }) (v u : Value) (hd : a.eval d = v) (hs : a.eval s = u) {v' : Value} {w' : World}
    (hr : (Builtin.append_ #[t, t'] o.type #[v, u]).run P w = .ok v' w') (h : wpList P ops Q rest (a.put o.dst v') w') : wpList P ops Q (o :: rest) a w :=
  wpList_plain hgd fun _ hK => wp_append_run w d s t t' ho v u hd hs hr (hK _ _ h)
end
/-- What Insert leaves. -/
def InsPost (base : Nat) (e : TypeId) (sz n : Nat) (xs : List Value) (s : Value) (w : World) (en : Ending) (w' : World) : Prop :=
  ∃ s', en = .returned s' ∧ w'.ownsRow base e sz s' n xs ∧ w.grownBy w' s.ownBlock ∧ s'.ownBlock ≠ none
theorem shift_list (cur xs news : List Value) (a b s : Nat) (hab : a ≤ b) (hx : cur.take b = xs) (hl : news.length = s) (hc : b + s ≤ cur.length) :
    ((cur.take (a + s) ++ xs.drop a ++ cur.drop (a + s + (xs.drop a).length)).take a ++ news ++ (cur.take (a + s) ++ xs.drop a ++ cur.drop (a + s + (xs.drop a).length)).drop (a + s)).take (b + s) = xs.take a ++ (news ++ xs.drop a) ∧
    ((cur.take (a + s) ++ xs.drop a ++ cur.drop (a + s + (xs.drop a).length)).take a ++ news ++ (cur.take (a + s) ++ xs.drop a ++ cur.drop (a + s + (xs.drop a).length)).drop (a + s)).length = cur.length := by
  have hxl : xs.length = b := by rw [← hx, List.length_take]; omega
  have h1 : (cur.take (a + s) ++ xs.drop a ++ cur.drop (a + s + (xs.drop a).length)).take a = xs.take a := by
    rw [List.append_assoc, List.take_append_of_le_length (by simp; omega), List.take_take, ← hx, List.take_take]
    congr 1; omega
  have h2 : (cur.take (a + s) ++ xs.drop a ++ cur.drop (a + s + (xs.drop a).length)).drop (a + s) = xs.drop a ++ cur.drop (a + s + (xs.drop a).length) := by
    rw [List.append_assoc, List.drop_append_of_le_length (by simp; omega), List.drop_of_length_le (by simp; omega), List.nil_append]
  rw [h1, h2]
  constructor
  · rw [List.append_assoc, ← List.append_assoc news, ← List.append_assoc, List.take_append_of_le_length (by simp; omega), List.take_of_length_le (by simp; omega)]
  · simp; omega
theorem grow_list (R xs news : List Value) (a b s : Nat) (hab : a ≤ b) (hxl : xs.length = b) (hx : R.take a = xs.take a) (hl : news.length = s) (hc : b + s ≤ R.length) :
    ((R.take a ++ news ++ R.drop (a + news.length)).take (a + s) ++ xs.drop a ++ (R.take a ++ news ++ R.drop (a + news.length)).drop (a + s + (xs.drop a).length)).take (b + s) = xs.take a ++ (news ++ xs.drop a) ∧
    ((R.take a ++ news ++ R.drop (a + news.length)).take (a + s) ++ xs.drop a ++ (R.take a ++ news ++ R.drop (a + news.length)).drop (a + s + (xs.drop a).length)).length = R.length := by
  have h1 : (R.take a ++ news ++ R.drop (a + news.length)).take (a + s) = xs.take a ++ news := by
    rw [List.take_append_of_le_length (by simp; omega), List.take_of_length_le (by simp; omega), hx]
  rw [h1]
  constructor
  · rw [List.take_append_of_le_length (by simp; omega), List.take_of_length_le (by simp; omega), List.append_assoc]
  · simp; omega
theorem own_of {w : World} {base : Nat} {e : TypeId} {sz g n cap : Nat} {cur : Array Value} {xs : List Value} (hb : base ≤ g) (hg : w.heap[g]? = some (.cells cur e (0, 0))) (hn : n ≤ cap) (hm : cap ≤ maxLen) (hs : cur.size = cap * sz) (ht : cur.toList.take (n * sz) = xs) :
    w.ownsRow base e sz (.slice (some ⟨g, 0, none⟩) n cap) n xs := by
  refine ⟨?_, .inr ⟨g, cap, cur, rfl, hb, hg, hn, hm, hs, ht⟩⟩
  rw [← ht, List.length_take, Array.length_toList, hs]
  have := Nat.mul_le_mul_right sz hn
  omega
end Go.Proofs.YtoiemkifgdnhaaaGreatDoor
namespace Go.Proofs.YtoiemkifgdnhaaaGreatDoor
open Go Go.RowKit

set_option maxHeartbeats 1000000 in
theorem ins_nil_rows (w : World) (base g : Nat) (news : List Value) (hb : base ≤ w.heap.size) (hl : news.length = 1) (hnews : ∀ j u, news[j]? = some u → w.cell? ⟨g, j, none⟩ = some u) (h1 : ∀ u ∈ news, u.oneCell' = true) :
    Calls Tryz.prog 81 #[.slice none 0 0, .int .i64 0, .slice (some ⟨g, 0, none⟩) 1 1] w (InsPost base 26 1 1 news (.slice none 0 0) w) := by
  obtain ⟨i0, hi, hz0, hz1, hz2⟩ := info_parts info_ints
  have Hi := Lib.hid hi; have Hz0 := Lib.hid hz0; have Hz1 := Lib.hid hz1; have Hz2 := Lib.hid hz2
  have HN := Lib.hid hnews; have H1 := Lib.hid h1; have HL := Lib.hid hl
  clear hi hz0 hz1 hz2 hnews h1 hl
  go_enter Tryz.func81, Tryz.ntmps81
  go_wp2_with (at_builtin; refine wpList_append_own _ rfl (.tmp 23) (.tmp 24) 22 rfl base 26 i0 (.slice none 0 0) 1 24 und_rows Hi.out Hz0.out Hz1.out Hz2.out rfl (by decide) _ _ _ rfl (World.ownsRow_nil w base 26 1) ⟨g, 0, none⟩ 1 1 news rfl (by rw [HL.out]) (fun j u hj => by rw [show (Addr.add ⟨g, 0, none⟩ j : Addr) = ⟨g, j, none⟩ from by simp [Addr.add]; intro h; exact h.symm]; exact HN.out j u hj) H1.out (by unfold maxLen; omega) (by omega) hb ?_; intro v' w1 hown hgr hnil)
  go_ret
  refine ⟨v', rfl, by simpa using hown, hgr, fun h => ?_⟩
  rcases own_cases hown with ⟨h2, h3⟩ | ⟨g', cap', rfl, _⟩
  · omega
  · simp [Value.ownBlock] at h

theorem addr_rows (g j : Nat) : (Addr.add ⟨g, 0, none⟩ j : Addr) = ⟨g, j, none⟩ := by simp [Addr.add]; intro h; exact h.symm
set_option maxRecDepth 100000 in
set_option maxHeartbeats 1000000 in
theorem ins_end_rows (w : World) (base g gs n cap : Nat) (xs news : List Value) (hown : w.ownsRow base 26 1 (.slice (some ⟨gs, 0, none⟩) n cap) n xs) (hn : n ≤ 1000) (hb : base ≤ w.heap.size) (hl : news.length = 1)
    (hnews : ∀ j u, news[j]? = some u → w.cell? ⟨g, j, none⟩ = some u) (h1 : ∀ u ∈ news, u.oneCell' = true) :
    Calls Tryz.prog 81 #[.slice (some ⟨gs, 0, none⟩) n cap, .int .i64 n, .slice (some ⟨g, 0, none⟩) 1 1] w (InsPost base 26 1 (n + 1) (xs ++ news) (.slice (some ⟨gs, 0, none⟩) n cap) w) := by
  obtain ⟨i0, hi, hz0, hz1, hz2⟩ := info_parts info_ints
  have Hi := Lib.hid hi; have Hz0 := Lib.hid hz0; have Hz1 := Lib.hid hz1; have Hz2 := Lib.hid hz2
  have HN := Lib.hid hnews; have H1 := Lib.hid h1; have HL := Lib.hid hl; have HO := Lib.hid hown
  clear hi hz0 hz1 hz2 hnews h1 hl hown
  by_cases hcn : cap = n
  all_goals
    first | subst hcn | skip
    go_enter Tryz.func81, Tryz.ntmps81
    go_wp2_with (at_builtin; refine wpList_append_own _ rfl (.tmp 23) (.tmp 24) 22 rfl base 26 i0 (.slice none 0 0) 1 24 und_rows Hi.out Hz0.out Hz1.out Hz2.out rfl (by decide) _ _ _ rfl HO.out ⟨g, 0, none⟩ 1 1 news rfl (by rw [HL.out]) (fun j u hj => by rw [addr_rows]; exact HN.out j u hj) H1.out (by unfold maxLen; omega) (by omega) hb ?_; intro v' w1 hown hgr hnil)
    go_ret
    refine ⟨v', rfl, hown, hgr, fun h => ?_⟩
    rcases own_cases hown with ⟨h2, h3⟩ | ⟨g', cap', rfl, _⟩
    · omega
    · simp [Value.ownBlock] at h
set_option maxHeartbeats 4000000 in
set_option maxRecDepth 100000 in
theorem ins_shift_rows (w : World) (base g gs n cap i : Nat) (xs news : List Value) (hown : w.ownsRow base 26 1 (.slice (some ⟨gs, 0, none⟩) n cap) n xs) (hn : n ≤ 1000) (hi : i < n) (hc : n + 1 ≤ cap) (hl : news.length = 1)
    (tA : TypeId) (kA : Array Value) (hg : w.heap[g]? = some (.cells kA tA (0, 0))) (hnews : ∀ j u, news[j]? = some u → w.cell? ⟨g, j, none⟩ = some u) (h1 : ∀ u ∈ news, u.oneCell' = true) (hgs : g ≠ gs) (hx1 : ∀ u ∈ xs, u.oneCell' = true) :
    Calls Tryz.prog 81 #[.slice (some ⟨gs, 0, none⟩) n cap, .int .i64 i, .slice (some ⟨g, 0, none⟩) 1 1] w (InsPost base 26 1 (n + 1) (xs.take (i * 1) ++ (news ++ xs.drop (i * 1))) (.slice (some ⟨gs, 0, none⟩) n cap) w) := by
  obtain ⟨i0, hi0, hz0, hzs, hzb⟩ := info_parts info_ints
  have hsz : (Tryz.prog.info? 26).map (·.size) = some 1 := by rw [hi0]; simp [hzs]
  have hlx : xs.length = n * 1 := hown.1
  obtain ⟨cur, hcur, hcs, hct⟩ : ∃ cur, w.heap[gs]? = some (.cells cur 26 (0, 0)) ∧ cur.size = cap * 1 ∧ cur.toList.take (n * 1) = xs := by
    rcases hown.2 with ⟨h, _⟩ | ⟨g', cap', cur, h, _, h3, _, _, h5, h6⟩
    · simp at h
    · simp only [Value.slice.injEq, Option.some.injEq, Addr.mk.injEq, and_true, true_and] at h
      obtain ⟨rfl, rfl⟩ := h
      exact ⟨cur, h3, h5, h6⟩
  have hbase : base ≤ gs := by
    rcases hown.2 with ⟨h, _⟩ | ⟨g', cap', cur, h, hb, _⟩
    · simp at h
    · simp only [Value.slice.injEq, Option.some.injEq, Addr.mk.injEq, and_true, true_and] at h
      obtain ⟨rfl, rfl⟩ := h
      exact hb
  have hcm : cap ≤ maxLen := by
    rcases hown.2 with ⟨h, _⟩ | ⟨g', cap', cur, h, hb, _, _, h4, _⟩
    · simp at h
    · simp only [Value.slice.injEq, Option.some.injEq, Addr.mk.injEq, and_true, true_and] at h
      obtain ⟨rfl, rfl⟩ := h
      exact h4
  have hov : ∀ lb cb, (callFunc 105 #[.slice (some ⟨g, 0, none⟩) 1 1, .slice (some ⟨gs, i + 1, none⟩) lb cb]).run Tryz.prog w = .ok (.value (.bool false)) w := fun lb cb => by
    rw [run_callFunc_extern (fn := Tryz.f105) (by kernel_rfl) (by kernel_rfl) (by kernel_rfl) (by kernel_rfl) (e := Extern.SlicesOverlaps.overlaps #[22, 22] #[4]) (by kernel_rfl),
      Lib.run_overlaps_apart w 22 4 26 und_rows 1 (fun w => by kernel_rfl) ⟨g, 0, none⟩ ⟨gs, i + 1, none⟩ 1 1 lb cb hgs tA 26 kA.size cur.size (by simp [World.shape?, hg]) (by simp [World.shape?, hcur]) (by rw [hcs]; omega) (by simp [World.frozen?, hg]) (by simp [World.frozen?, hg])]
    rfl
  have hcap : (n + 1) * 1 ≤ cap * 1 := Nat.mul_le_mul_right _ hc
  have hcl : ∀ j u, xs[j]? = some u → w.cell? ⟨gs, j, none⟩ = some u := fun j u hj => by
    have hjl : j < n * 1 := by rw [← hlx]; exact (List.getElem?_eq_some_iff.1 hj).1
    rw [hown.cellAt j hjl]; exact hj
  have hdl : (xs.drop (i * 1)).length = (n - i) * 1 := by rw [List.length_drop, hlx]; omega
  have hcp1 : ∀ ty dc sc, (Builtin.copy_ #[22, 22] ty #[.slice (some ⟨gs, i + 1, none⟩) (n - i) dc, .slice (some ⟨gs, i, none⟩) (n + 1 - i) sc]).run Tryz.prog w.drew = .ok (goInt (n - i : Nat)) (w.drew.setRow gs (cur.toList.take (i * 1 + 1) ++ xs.drop (i * 1) ++ cur.toList.drop (i * 1 + 1 + (xs.drop (i * 1)).length)).toArray) := fun ty dc sc => by
    have := run_copyR (P := Tryz.prog) w.drew 22 22 ty 26 1 gs (i * 1 + 1) (n - i) dc ⟨gs, i * 1, none⟩ (n + 1 - i) sc cur 26 (xs.drop (i * 1)) (n - i) und_rows hsz hcur (by simp only [Nat.min_def]; split <;> omega) hdl
      (fun j u hj => by rw [List.getElem?_drop] at hj; have := hcl _ u hj; rw [show (Addr.add ⟨gs, i * 1, none⟩ j : Addr) = ⟨gs, i * 1 + j, none⟩ from by simp [Addr.add]; try (intro h; exact h.symm)]; exact this) (by rw [hdl, hcs]; omega) (fun u hu => hx1 u (List.mem_of_mem_drop hu))
    simp only [Nat.mul_one] at this ⊢
    exact this
  obtain ⟨c1, hc1⟩ : ∃ c1, c1 = (cur.toList.take (i * 1 + 1) ++ xs.drop (i * 1) ++ cur.toList.drop (i * 1 + 1 + (xs.drop (i * 1)).length)).toArray := ⟨_, rfl⟩
  rw [← hc1] at hcp1
  obtain ⟨W1, hW1⟩ : ∃ W1, W1 = w.drew.setRow gs c1 := ⟨_, rfl⟩
  rw [← hW1] at hcp1
  have hg1 : W1.heap[gs]? = some (.cells c1 26 (0, 0)) := by rw [hW1]; exact setRow_heap hcur
  have hgo : ∀ k, k ≠ gs → W1.heap[k]? = w.heap[k]? := fun k hk => by rw [hW1]; exact setRow_other hk
  have hc1l : c1.size = cap * 1 := by
    rw [hc1]; simp [hdl, hcs]; omega
  have hcp2 : ∀ ty dc, (Builtin.copy_ #[22, 22] ty #[.slice (some ⟨gs, i, none⟩) (n + 1 - i) dc, .slice (some ⟨g, 0, none⟩) 1 1]).run Tryz.prog W1 = .ok (goInt (1 : Nat)) (W1.setRow gs (c1.toList.take (i * 1) ++ news ++ c1.toList.drop (i * 1 + news.length)).toArray) := fun ty dc => by
    have := run_copyR (P := Tryz.prog) W1 22 22 ty 26 1 gs (i * 1) (n + 1 - i) dc ⟨g, 0, none⟩ 1 1 c1 26 news 1 und_rows hsz hg1 (by simp only [Nat.min_def]; split <;> omega) (by rw [hl])
      (fun j u hj => by rw [addr_rows, World.cell?_of_block (w := w) (hgo g hgs)]; exact hnews j u hj) (by rw [hl, hc1l]; omega) h1
    simp only [Nat.mul_one] at this ⊢
    exact this
  have hfin := shift_list cur.toList xs news (i * 1) (n * 1) 1 (by omega) hct hl (by simp [hcs]; omega)
  have HF := Lib.hid hfin; have HC1 := Lib.hid hc1; have HW1 := Lib.hid hW1; have HL := Lib.hid hl; have HG1 := Lib.hid hg1; have HGO := Lib.hid hgo
  have HCS0 := Lib.hid (show cur.toList.length = cap * 1 by rw [Array.length_toList, hcs]); have HCS := Lib.hid hc1l; have HCM := Lib.hid hcm
  have hcm' : cap ≤ 9223372036854775807 := by unfold maxLen at hcm; omega
  clear hfin hc1 hl hown hcur hcs hct hi0 hz0 hzs hzb hsz hcl hdl hnews h1 hx1 hg1 hgo hlx hg hc1l hcm hW1
  have hz2 : ¬ ((i : Int) = (n : Int)) := by omega
  have hw1 : IntKind.i64.wrap ((i : Int) + 1) = (i : Int) + 1 := by rw [IntKind.wrap_i64]; omega
  have hb1 : (0 : Int) ≤ (i : Int) + 1 := by omega
  have htn : ((i : Int) + 1).toNat = i + 1 := by omega
  have hb2 : ¬ (cap = i + 1) := by omega
  have hb3 : (i : Int) ≤ (n : Int) + 1 := by omega
  have hb5 : (i : Int) + 1 ≤ (n : Int) + 1 := by omega
  have hb4 : ¬ (cap = i) := by omega
  have hb6 : ¬ ((cap : Int) < (n : Int) + 1) := by omega
  have hb7 : n + 1 - (i + 1) = n - i := by omega
  go_enter Tryz.func81, Tryz.ntmps81
  go_wp2_with (simp only [hov])
  go_region_law (refine step_copy_runI rfl _ _ 22 22 rfl _ _ (by simp [Act.eval, Act.put]) (by simp [Act.eval, Act.put]) (hcp1 _ _ _) ?_)
  go_wp2
  go_ret
  have hg1 := HG1.out
  obtain ⟨f1, f2⟩ := HF.out
  have hcc : c1.toList = cur.toList.take (i * 1 + 1) ++ xs.drop (i * 1) ++ cur.toList.drop (i * 1 + 1 + (xs.drop (i * 1)).length) := by rw [HC1.out]
  rw [← hcc] at f1 f2
  have hcs0 := HCS0.out
  rw [← HL.out, List.append_assoc] at f1 f2
  simp only [Nat.mul_one, HL.out] at f1 f2
  refine ⟨_, rfl, own_of hbase (setRow_heap hg1) hc HCM.out ?_ ?_, ?_, by simp [Value.ownBlock]⟩
  · simp only [List.size_toArray, HL.out]; rw [f2]; exact hcs0
  · simp only [HL.out, Nat.add_mul, Nat.one_mul, Nat.mul_one]; exact f1
  · have hW := HW1.out
    refine ⟨by rw [hW]; rfl, by rw [hW]; rfl, by rw [hW]; rfl, by rw [hW]; simp, fun k hk hne => ?_⟩
    have hkg : k ≠ gs := fun h => hne (by rw [h]; rfl)
    rw [setRow_other hkg, HGO.out k hkg]
set_option maxHeartbeats 4000000 in
set_option maxRecDepth 100000 in
theorem ins_grow_rows (w : World) (base g gs n i : Nat) (xs news : List Value) (hown : w.ownsRow base 26 1 (.slice (some ⟨gs, 0, none⟩) n n) n xs) (hn : n ≤ 1000) (hi : i < n) (hb : base ≤ w.heap.size) (hl : news.length = 1)
    (hgl : g < w.heap.size) (hnews : ∀ j u, news[j]? = some u → w.cell? ⟨g, j, none⟩ = some u) (h1 : ∀ u ∈ news, u.oneCell' = true) (hx1 : ∀ u ∈ xs, u.oneCell' = true) :
    Calls Tryz.prog 81 #[.slice (some ⟨gs, 0, none⟩) n n, .int .i64 i, .slice (some ⟨g, 0, none⟩) 1 1] w (InsPost base 26 1 (n + 1) (xs.take (i * 1) ++ (news ++ xs.drop (i * 1))) (.slice (some ⟨gs, 0, none⟩) n n) w) := by
  obtain ⟨i0, hi0, hz0, hzs, hzb⟩ := info_parts info_ints
  have hsz : (Tryz.prog.info? 26).map (·.size) = some 1 := by rw [hi0]; simp [hzs]
  have hlx : xs.length = n * 1 := hown.1
  have hgsl : gs < w.heap.size := by
    rcases own_cases hown with ⟨h, _⟩ | ⟨g', cap', h, _, h2, _⟩
    · simp at h
    · simp only [Value.slice.injEq, Option.some.injEq, Addr.mk.injEq, and_true, true_and] at h
      rw [h.1]; exact h2
  have hcl : ∀ j u, xs[j]? = some u → w.cell? ⟨gs, j, none⟩ = some u := fun j u hj => by
    have hjl : j < n * 1 := by rw [← hlx]; exact (List.getElem?_eq_some_iff.1 hj).1
    rw [hown.cellAt j hjl]; exact hj
  have hdl : (xs.drop (i * 1)).length = (n - i) * 1 := by rw [List.length_drop, hlx]; omega
  have htl : (xs.take (i * 1)).length = i * 1 := by rw [List.length_take, hlx]; omega
  have hkk : (n : Int) + 1 - (i : Int) = ((n + 1 - i : Nat) : Int) := by omega
  have hik : i + (n + 1 - i) = n + 1 := by omega
  have hold : (Builtin.firstCells i0.size i (.slice (some ⟨gs, 0, none⟩) i n)).run Tryz.prog w.drew = .ok (xs.take (i * 1)).toArray w.drew := by
    rw [hzs]
    exact run_firstCells_some w.drew 1 i ⟨gs, 0, none⟩ i n (xs.take (i * 1)) htl (fun j v hj => by
      rw [addr_rows]
      rw [List.getElem?_take] at hj
      split at hj
      · exact hcl j v hj
      · cases hj)
  obtain ⟨G, hG⟩ : ∃ G, G = grownCap w (n + 1) n 26 := ⟨_, rfl⟩
  have hGn : n + 1 ≤ G := by rw [hG]; exact grownCap_ge w _ _ _
  have hGm : G ≤ maxLen := by rw [hG]; exact grownCap_le_maxLen w (n + 1) n 26 (by unfold maxLen; omega)
  obtain ⟨R, hR⟩ : ∃ R : Array Value, R = (xs.take (i * 1)).toArray ++ Builtin.zeroCells (Value.cells (.slice none 0 0)) (n + 1 - i) ++ Builtin.zeroCells (Value.cells (.slice none 0 0)) (G - (n + 1)) := ⟨_, rfl⟩
  have hrz : ∀ ty, (Builtin.append_ #[22, 3] ty #[.slice (some ⟨gs, 0, none⟩) i n, .int .i64 ((n + 1 - i : Nat) : Int)]).run Tryz.prog w =
      .ok (.slice (some ⟨w.heap.size, 0, none⟩) (n + 1) G) (w.drew.alloc (.cells R 26)) := fun ty => by
    have h := Lib.run_append_grow_zeros (P := Tryz.prog) w 22 3 ty 26 i0 _ .i64 .i64 und_rows (by kernel_rfl) hi0 hz0 (some ⟨gs, 0, none⟩) i n (xs.take (i * 1)) hold (n + 1 - i) (by omega) (by omega) (by omega) (by omega) (by rw [hzb]; omega) (by rw [hzb, hik]; exact growslice_fits (by omega) (by omega))
    rw [hik, ← hG, ← hR] at h
    exact h
  have hRs : R.size = G * 1 := by
    rw [hR]; simp [Builtin.zeroCells, Value.cells, hlx]; omega
  have hRt : R.toList.take (i * 1) = xs.take (i * 1) := by
    rw [hR]; simp only [Array.toList_append, List.append_assoc]
    rw [List.take_append_of_le_length (by rw [htl]; omega), List.take_of_length_le (by rw [htl]; omega)]
  obtain ⟨W1, hW1⟩ : ∃ W1, W1 = w.drew.alloc (.cells R 26) := ⟨_, rfl⟩
  rw [← hW1] at hrz
  have hg1 : W1.heap[w.heap.size]? = some (.cells R 26 (0, 0)) := by rw [hW1]; exact heap_alloc_new w.drew _
  have hgo : ∀ k, k < w.heap.size → W1.heap[k]? = w.heap[k]? := fun k hk => by rw [hW1]; exact heap_alloc_old w.drew _ hk
  have hcp1 : ∀ ty dc, (Builtin.copy_ #[22, 22] ty #[.slice (some ⟨w.heap.size, i, none⟩) (n + 1 - i) dc, .slice (some ⟨g, 0, none⟩) 1 1]).run Tryz.prog W1 = .ok (goInt (1 : Nat)) (W1.setRow w.heap.size (R.toList.take (i * 1) ++ news ++ R.toList.drop (i * 1 + news.length)).toArray) := fun ty dc => by
    have := run_copyR (P := Tryz.prog) W1 22 22 ty 26 1 w.heap.size (i * 1) (n + 1 - i) dc ⟨g, 0, none⟩ 1 1 R 26 news 1 und_rows hsz hg1 (by simp only [Nat.min_def]; split <;> omega) (by rw [hl])
      (fun j u hj => by rw [addr_rows, World.cell?_of_block (w := w) (hgo g hgl)]; exact hnews j u hj) (by rw [hl, hRs]; omega) h1
    simp only [Nat.mul_one] at this ⊢
    exact this
  obtain ⟨c1, hc1⟩ : ∃ c1, c1 = (R.toList.take (i * 1) ++ news ++ R.toList.drop (i * 1 + news.length)).toArray := ⟨_, rfl⟩
  rw [← hc1] at hcp1
  obtain ⟨W2, hW2⟩ : ∃ W2, W2 = W1.setRow w.heap.size c1 := ⟨_, rfl⟩
  rw [← hW2] at hcp1
  have hg2 : W2.drew.heap[w.heap.size]? = some (.cells c1 26 (0, 0)) := by rw [hW2]; exact setRow_heap hg1
  have hgo2 : ∀ k, k < w.heap.size → W2.drew.heap[k]? = w.heap[k]? := fun k hk => by rw [hW2, heap_drew, setRow_other (by omega)]; exact hgo k hk
  have hc1l : c1.size = G * 1 := by
    rw [hc1]; simp [hRs, hl]; omega
  have hcp2 : ∀ ty dc sc, (Builtin.copy_ #[22, 22] ty #[.slice (some ⟨w.heap.size, i + 1, none⟩) (n - i) dc, .slice (some ⟨gs, i, none⟩) (n - i) sc]).run Tryz.prog W2.drew = .ok (goInt (n - i : Nat)) (W2.drew.setRow w.heap.size (c1.toList.take (i * 1 + 1) ++ xs.drop (i * 1) ++ c1.toList.drop (i * 1 + 1 + (xs.drop (i * 1)).length)).toArray) := fun ty dc sc => by
    have := run_copyR (P := Tryz.prog) W2.drew 22 22 ty 26 1 w.heap.size (i * 1 + 1) (n - i) dc ⟨gs, i * 1, none⟩ (n - i) sc c1 26 (xs.drop (i * 1)) (n - i) und_rows hsz hg2 (by simp only [Nat.min_def]; split <;> omega) hdl
      (fun j u hj => by rw [List.getElem?_drop] at hj; have := hcl _ u hj; rw [show (Addr.add ⟨gs, i * 1, none⟩ j : Addr) = ⟨gs, i * 1 + j, none⟩ from by simp [Addr.add]; try (intro h; exact h.symm), World.cell?_of_block (w := w) (hgo2 gs hgsl)]; exact this) (by rw [hdl, hc1l]; omega) (fun u hu => hx1 u (List.mem_of_mem_drop hu))
    simp only [Nat.mul_one] at this ⊢
    exact this
  have hfin := grow_list R.toList xs news (i * 1) (n * 1) 1 (by omega) hlx hRt hl (by simp [hRs]; omega)
  have HF := Lib.hid hfin; have HC1 := Lib.hid hc1; have HW1 := Lib.hid hW1; have HW2 := Lib.hid hW2; have HL := Lib.hid hl; have HG2 := Lib.hid hg2; have HGO := Lib.hid hgo2
  have HRS := Lib.hid (show R.toList.length = G * 1 by rw [Array.length_toList, hRs]); have HGM := Lib.hid hGm
  have hcm' : G ≤ 9223372036854775807 := by unfold maxLen at hGm; omega
  clear hfin hc1 hl hown hi0 hz0 hzs hzb hsz hcl hdl hnews h1 hx1 hg1 hgo hlx hc1l hW1 hW2 hR hRs hRt hold htl hg2 hgo2 hG hGm
  have hz2 : ¬ ((i : Int) = (n : Int)) := by omega
  have hw1 : IntKind.i64.wrap ((i : Int) + 1) = (i : Int) + 1 := by rw [IntKind.wrap_i64]; omega
  have hb1 : (0 : Int) ≤ (i : Int) + 1 := by omega
  have htn : ((i : Int) + 1).toNat = i + 1 := by omega
  have hb2 : ¬ (G = i + 1) := by omega
  have hb3 : (i : Int) ≤ (n : Int) + 1 := by omega
  have hb5 : (i : Int) + 1 ≤ (n : Int) + 1 := by omega
  have hb4 : ¬ (G = i) := by omega
  have hb8 : ¬ (n = i) := by omega
  have hb9 : (i : Int) ≤ (n : Int) := by omega
  have hb7 : n + 1 - (i + 1) = n - i := by omega
  go_enter Tryz.func81, Tryz.ntmps81
  go_wp2_with (at_builtin; refine wpList_append_run _ rfl (.tmp 34) (.tmp 39) 22 3 rfl _ _ rfl rfl (hrz _) ?_)
  go_region_law (refine step_copy_runI rfl _ _ 22 22 rfl _ _ (by simp [Act.eval, Act.put]) (by simp [Act.eval, Act.put]) (hcp2 _ _ _) ?_)
  go_wp2
  go_ret
  obtain ⟨f1, f2⟩ := HF.out
  have hcc : c1.toList = R.toList.take (i * 1) ++ news ++ R.toList.drop (i * 1 + news.length) := by rw [HC1.out]
  rw [← hcc] at f1 f2
  have hr0 := HRS.out
  simp only [Nat.mul_one, List.append_assoc, List.length_drop] at f1 f2
  refine ⟨_, rfl, own_of hb (setRow_heap HG2.out) hGn HGM.out ?_ ?_, ?_, by simp [Value.ownBlock]⟩
  · simp only [List.size_toArray, List.append_assoc, List.length_drop]; rw [f2]; exact hr0
  · simp only [Nat.add_mul, Nat.one_mul, Nat.mul_one, List.append_assoc, List.length_drop]; exact f1
  · refine ⟨by rw [HW2.out, HW1.out]; rfl, by rw [HW2.out, HW1.out]; rfl, by rw [HW2.out, HW1.out]; rfl, by rw [HW2.out, HW1.out]; simp, fun k hk hne => ?_⟩
    rw [setRow_other (by omega), HGO.out k hk]
/-- slices.Insert of one element, wherever it goes. -/
theorem insert_rows (w : World) (base g n i : Nat) (s : Value) (xs news : List Value) (hown : w.ownsRow base 26 1 s n xs) (hn : n ≤ 1000) (hi : i ≤ n) (hb : base ≤ w.heap.size) (hl : news.length = 1)
    (tA : TypeId) (kA : Array Value) (hg : w.heap[g]? = some (.cells kA tA (0, 0))) (hnews : ∀ j u, news[j]? = some u → w.cell? ⟨g, j, none⟩ = some u) (h1 : ∀ u ∈ news, u.oneCell' = true) (hgs : s.ownBlock ≠ some g) (hx1 : ∀ u ∈ xs, u.oneCell' = true) :
    Calls Tryz.prog 81 #[s, .int .i64 i, .slice (some ⟨g, 0, none⟩) 1 1] w (InsPost base 26 1 (n + 1) (xs.take (i * 1) ++ (news ++ xs.drop (i * 1))) s w) := by
  have hgl : g < w.heap.size := lt_of_block hg
  have hlx : xs.length = n * 1 := hown.1
  rcases own_cases hown with ⟨rfl, rfl⟩ | ⟨gs, cap, rfl, _, _, hnc, _⟩
  · obtain rfl : i = 0 := by omega
    have : xs = [] := by apply List.length_eq_zero_iff.1; omega
    subst this
    simpa using ins_nil_rows w base g news hb hl hnews h1
  · by_cases hin : i = n
    · subst hin
      have := ins_end_rows w base g gs i cap xs news hown hn hb hl hnews h1
      rwa [List.take_of_length_le (by omega), List.drop_of_length_le (by omega), List.append_nil]
    · by_cases hc : n + 1 ≤ cap
      · exact ins_shift_rows w base g gs n cap i xs news hown hn (by omega) hc hl tA kA hg hnews h1 (fun h => hgs (by rw [h]; rfl)) hx1
      · obtain rfl : n = cap := by omega
        exact ins_grow_rows w base g gs n i xs news hown hn (by omega) hb hl hgl hnews h1 hx1

set_option maxHeartbeats 1000000 in
theorem ins_nil_vals (w : World) (base g : Nat) (news : List Value) (hb : base ≤ w.heap.size) (hl : news.length = 7) (hnews : ∀ j u, news[j]? = some u → w.cell? ⟨g, j, none⟩ = some u) (h1 : ∀ u ∈ news, u.oneCell' = true) :
    Calls Tryz.prog 80 #[.slice none 0 0, .int .i64 0, .slice (some ⟨g, 0, none⟩) 1 1] w (InsPost base 47 7 1 news (.slice none 0 0) w) := by
  obtain ⟨i0, hi, hz0, hz1, hz2⟩ := info_parts info_value
  have Hi := Lib.hid hi; have Hz0 := Lib.hid hz0; have Hz1 := Lib.hid hz1; have Hz2 := Lib.hid hz2
  have HN := Lib.hid hnews; have H1 := Lib.hid h1; have HL := Lib.hid hl
  clear hi hz0 hz1 hz2 hnews h1 hl
  go_enter Tryz.func80, Tryz.ntmps80
  go_wp2_with (at_builtin; refine wpList_append_own _ rfl (.tmp 23) (.tmp 24) 42 rfl base 47 i0 (.agg #[.int .i64 0, .string ⟨#[]⟩, .int .i64 0, .int .i64 0, .int .i64 0, .slice none 0 0, .slice none 0 0]) 7 96 und_vals Hi.out Hz0.out Hz1.out Hz2.out rfl (by decide) _ _ _ rfl (World.ownsRow_nil w base 47 7) ⟨g, 0, none⟩ 1 1 news rfl (by rw [HL.out]) (fun j u hj => by rw [show (Addr.add ⟨g, 0, none⟩ j : Addr) = ⟨g, j, none⟩ from by simp [Addr.add]; intro h; exact h.symm]; exact HN.out j u hj) H1.out (by unfold maxLen; omega) (by omega) hb ?_; intro v' w1 hown hgr hnil)
  go_ret
  refine ⟨v', rfl, by simpa using hown, hgr, fun h => ?_⟩
  rcases own_cases hown with ⟨h2, h3⟩ | ⟨g', cap', rfl, _⟩
  · omega
  · simp [Value.ownBlock] at h

theorem addr_vals (g j : Nat) : (Addr.add ⟨g, 0, none⟩ j : Addr) = ⟨g, j, none⟩ := by simp [Addr.add]; intro h; exact h.symm
set_option maxRecDepth 100000 in
set_option maxHeartbeats 1000000 in
theorem ins_end_vals (w : World) (base g gs n cap : Nat) (xs news : List Value) (hown : w.ownsRow base 47 7 (.slice (some ⟨gs, 0, none⟩) n cap) n xs) (hn : n ≤ 1000) (hb : base ≤ w.heap.size) (hl : news.length = 7)
    (hnews : ∀ j u, news[j]? = some u → w.cell? ⟨g, j, none⟩ = some u) (h1 : ∀ u ∈ news, u.oneCell' = true) :
    Calls Tryz.prog 80 #[.slice (some ⟨gs, 0, none⟩) n cap, .int .i64 n, .slice (some ⟨g, 0, none⟩) 1 1] w (InsPost base 47 7 (n + 1) (xs ++ news) (.slice (some ⟨gs, 0, none⟩) n cap) w) := by
  obtain ⟨i0, hi, hz0, hz1, hz2⟩ := info_parts info_value
  have Hi := Lib.hid hi; have Hz0 := Lib.hid hz0; have Hz1 := Lib.hid hz1; have Hz2 := Lib.hid hz2
  have HN := Lib.hid hnews; have H1 := Lib.hid h1; have HL := Lib.hid hl; have HO := Lib.hid hown
  clear hi hz0 hz1 hz2 hnews h1 hl hown
  by_cases hcn : cap = n
  all_goals
    first | subst hcn | skip
    go_enter Tryz.func80, Tryz.ntmps80
    go_wp2_with (at_builtin; refine wpList_append_own _ rfl (.tmp 23) (.tmp 24) 42 rfl base 47 i0 (.agg #[.int .i64 0, .string ⟨#[]⟩, .int .i64 0, .int .i64 0, .int .i64 0, .slice none 0 0, .slice none 0 0]) 7 96 und_vals Hi.out Hz0.out Hz1.out Hz2.out rfl (by decide) _ _ _ rfl HO.out ⟨g, 0, none⟩ 1 1 news rfl (by rw [HL.out]) (fun j u hj => by rw [addr_vals]; exact HN.out j u hj) H1.out (by unfold maxLen; omega) (by omega) hb ?_; intro v' w1 hown hgr hnil)
    go_ret
    refine ⟨v', rfl, hown, hgr, fun h => ?_⟩
    rcases own_cases hown with ⟨h2, h3⟩ | ⟨g', cap', rfl, _⟩
    · omega
    · simp [Value.ownBlock] at h
set_option maxHeartbeats 4000000 in
set_option maxRecDepth 100000 in
theorem ins_shift_vals (w : World) (base g gs n cap i : Nat) (xs news : List Value) (hown : w.ownsRow base 47 7 (.slice (some ⟨gs, 0, none⟩) n cap) n xs) (hn : n ≤ 1000) (hi : i < n) (hc : n + 1 ≤ cap) (hl : news.length = 7)
    (tA : TypeId) (kA : Array Value) (hg : w.heap[g]? = some (.cells kA tA (0, 0))) (hnews : ∀ j u, news[j]? = some u → w.cell? ⟨g, j, none⟩ = some u) (h1 : ∀ u ∈ news, u.oneCell' = true) (hgs : g ≠ gs) (hx1 : ∀ u ∈ xs, u.oneCell' = true) :
    Calls Tryz.prog 80 #[.slice (some ⟨gs, 0, none⟩) n cap, .int .i64 i, .slice (some ⟨g, 0, none⟩) 1 1] w (InsPost base 47 7 (n + 1) (xs.take (i * 7) ++ (news ++ xs.drop (i * 7))) (.slice (some ⟨gs, 0, none⟩) n cap) w) := by
  obtain ⟨i0, hi0, hz0, hzs, hzb⟩ := info_parts info_value
  have hsz : (Tryz.prog.info? 47).map (·.size) = some 7 := by rw [hi0]; simp [hzs]
  have hlx : xs.length = n * 7 := hown.1
  obtain ⟨cur, hcur, hcs, hct⟩ : ∃ cur, w.heap[gs]? = some (.cells cur 47 (0, 0)) ∧ cur.size = cap * 7 ∧ cur.toList.take (n * 7) = xs := by
    rcases hown.2 with ⟨h, _⟩ | ⟨g', cap', cur, h, _, h3, _, _, h5, h6⟩
    · simp at h
    · simp only [Value.slice.injEq, Option.some.injEq, Addr.mk.injEq, and_true, true_and] at h
      obtain ⟨rfl, rfl⟩ := h
      exact ⟨cur, h3, h5, h6⟩
  have hbase : base ≤ gs := by
    rcases hown.2 with ⟨h, _⟩ | ⟨g', cap', cur, h, hb, _⟩
    · simp at h
    · simp only [Value.slice.injEq, Option.some.injEq, Addr.mk.injEq, and_true, true_and] at h
      obtain ⟨rfl, rfl⟩ := h
      exact hb
  have hcm : cap ≤ maxLen := by
    rcases hown.2 with ⟨h, _⟩ | ⟨g', cap', cur, h, hb, _, _, h4, _⟩
    · simp at h
    · simp only [Value.slice.injEq, Option.some.injEq, Addr.mk.injEq, and_true, true_and] at h
      obtain ⟨rfl, rfl⟩ := h
      exact h4
  have hov : ∀ lb cb, (callFunc 103 #[.slice (some ⟨g, 0, none⟩) 1 1, .slice (some ⟨gs, (i + 1) * 7, none⟩) lb cb]).run Tryz.prog w = .ok (.value (.bool false)) w := fun lb cb => by
    rw [run_callFunc_extern (fn := Tryz.f103) (by kernel_rfl) (by kernel_rfl) (by kernel_rfl) (by kernel_rfl) (e := Extern.SlicesOverlaps.overlaps #[42, 42] #[4]) (by kernel_rfl),
      Lib.run_overlaps_apart w 42 4 47 und_vals 7 (fun w => by kernel_rfl) ⟨g, 0, none⟩ ⟨gs, (i + 1) * 7, none⟩ 1 1 lb cb hgs tA 47 kA.size cur.size (by simp [World.shape?, hg]) (by simp [World.shape?, hcur]) (by rw [hcs]; omega) (by simp [World.frozen?, hg]) (by simp [World.frozen?, hg])]
    rfl
  have hcap : (n + 1) * 7 ≤ cap * 7 := Nat.mul_le_mul_right _ hc
  have hcl : ∀ j u, xs[j]? = some u → w.cell? ⟨gs, j, none⟩ = some u := fun j u hj => by
    have hjl : j < n * 7 := by rw [← hlx]; exact (List.getElem?_eq_some_iff.1 hj).1
    rw [hown.cellAt j hjl]; exact hj
  have hdl : (xs.drop (i * 7)).length = (n - i) * 7 := by rw [List.length_drop, hlx]; omega
  have hcp1 : ∀ ty dc sc, (Builtin.copy_ #[42, 42] ty #[.slice (some ⟨gs, (i + 1) * 7, none⟩) (n - i) dc, .slice (some ⟨gs, i * 7, none⟩) (n + 1 - i) sc]).run Tryz.prog w.drew = .ok (goInt (n - i : Nat)) (w.drew.setRow gs (cur.toList.take (i * 7 + 7) ++ xs.drop (i * 7) ++ cur.toList.drop (i * 7 + 7 + (xs.drop (i * 7)).length)).toArray) := fun ty dc sc => by
    have := run_copyR (P := Tryz.prog) w.drew 42 42 ty 47 7 gs (i * 7 + 7) (n - i) dc ⟨gs, i * 7, none⟩ (n + 1 - i) sc cur 47 (xs.drop (i * 7)) (n - i) und_vals hsz hcur (by simp only [Nat.min_def]; split <;> omega) hdl
      (fun j u hj => by rw [List.getElem?_drop] at hj; have := hcl _ u hj; rw [show (Addr.add ⟨gs, i * 7, none⟩ j : Addr) = ⟨gs, i * 7 + j, none⟩ from by simp [Addr.add]; try (intro h; exact h.symm)]; exact this) (by rw [hdl, hcs]; omega) (fun u hu => hx1 u (List.mem_of_mem_drop hu))
    rw [show (i + 1) * 7 = i * 7 + 7 by omega]
    exact this
  obtain ⟨c1, hc1⟩ : ∃ c1, c1 = (cur.toList.take (i * 7 + 7) ++ xs.drop (i * 7) ++ cur.toList.drop (i * 7 + 7 + (xs.drop (i * 7)).length)).toArray := ⟨_, rfl⟩
  rw [← hc1] at hcp1
  obtain ⟨W1, hW1⟩ : ∃ W1, W1 = w.drew.setRow gs c1 := ⟨_, rfl⟩
  rw [← hW1] at hcp1
  have hg1 : W1.heap[gs]? = some (.cells c1 47 (0, 0)) := by rw [hW1]; exact setRow_heap hcur
  have hgo : ∀ k, k ≠ gs → W1.heap[k]? = w.heap[k]? := fun k hk => by rw [hW1]; exact setRow_other hk
  have hc1l : c1.size = cap * 7 := by
    rw [hc1]; simp [hdl, hcs]; omega
  have hcp2 : ∀ ty dc, (Builtin.copy_ #[42, 42] ty #[.slice (some ⟨gs, i * 7, none⟩) (n + 1 - i) dc, .slice (some ⟨g, 0, none⟩) 1 1]).run Tryz.prog W1 = .ok (goInt (1 : Nat)) (W1.setRow gs (c1.toList.take (i * 7) ++ news ++ c1.toList.drop (i * 7 + news.length)).toArray) := fun ty dc => by
    have := run_copyR (P := Tryz.prog) W1 42 42 ty 47 7 gs (i * 7) (n + 1 - i) dc ⟨g, 0, none⟩ 1 1 c1 47 news 1 und_vals hsz hg1 (by simp only [Nat.min_def]; split <;> omega) (by rw [hl])
      (fun j u hj => by rw [addr_vals, World.cell?_of_block (w := w) (hgo g hgs)]; exact hnews j u hj) (by rw [hl, hc1l]; omega) h1
    skip
    exact this
  have hfin := shift_list cur.toList xs news (i * 7) (n * 7) 7 (by omega) hct hl (by simp [hcs]; omega)
  have HF := Lib.hid hfin; have HC1 := Lib.hid hc1; have HW1 := Lib.hid hW1; have HL := Lib.hid hl; have HG1 := Lib.hid hg1; have HGO := Lib.hid hgo
  have HCS0 := Lib.hid (show cur.toList.length = cap * 7 by rw [Array.length_toList, hcs]); have HCS := Lib.hid hc1l; have HCM := Lib.hid hcm
  have hcm' : cap ≤ 9223372036854775807 := by unfold maxLen at hcm; omega
  clear hfin hc1 hl hown hcur hcs hct hi0 hz0 hzs hzb hsz hcl hdl hnews h1 hx1 hg1 hgo hlx hg hc1l hcm hW1
  have hz2 : ¬ ((i : Int) = (n : Int)) := by omega
  have hw1 : IntKind.i64.wrap ((i : Int) + 1) = (i : Int) + 1 := by rw [IntKind.wrap_i64]; omega
  have hb1 : (0 : Int) ≤ (i : Int) + 1 := by omega
  have htn : ((i : Int) + 1).toNat = i + 1 := by omega
  have hb2 : ¬ (cap = i + 1) := by omega
  have hb3 : (i : Int) ≤ (n : Int) + 1 := by omega
  have hb5 : (i : Int) + 1 ≤ (n : Int) + 1 := by omega
  have hb4 : ¬ (cap = i) := by omega
  have hb6 : ¬ ((cap : Int) < (n : Int) + 1) := by omega
  have hb7 : n + 1 - (i + 1) = n - i := by omega
  go_enter Tryz.func80, Tryz.ntmps80
  go_wp2_with (simp only [hov])
  go_region_law (refine step_copy_runI rfl _ _ 42 42 rfl _ _ (by simp [Act.eval, Act.put]) (by simp [Act.eval, Act.put]) (hcp1 _ _ _) ?_)
  go_wp2
  go_ret
  have hg1 := HG1.out
  obtain ⟨f1, f2⟩ := HF.out
  have hcc : c1.toList = cur.toList.take (i * 7 + 7) ++ xs.drop (i * 7) ++ cur.toList.drop (i * 7 + 7 + (xs.drop (i * 7)).length) := by rw [HC1.out]
  rw [← hcc] at f1 f2
  have hcs0 := HCS0.out
  rw [← HL.out, List.append_assoc] at f1 f2
  simp only [HL.out] at f1 f2
  refine ⟨_, rfl, own_of hbase (setRow_heap hg1) hc HCM.out ?_ ?_, ?_, by simp [Value.ownBlock]⟩
  · simp only [List.size_toArray, HL.out]; rw [f2]; exact hcs0
  · simp only [HL.out, Nat.add_mul, Nat.one_mul, Nat.mul_one]; exact f1
  · have hW := HW1.out
    refine ⟨by rw [hW]; rfl, by rw [hW]; rfl, by rw [hW]; rfl, by rw [hW]; simp, fun k hk hne => ?_⟩
    have hkg : k ≠ gs := fun h => hne (by rw [h]; rfl)
    rw [setRow_other hkg, HGO.out k hkg]
set_option maxHeartbeats 4000000 in
set_option maxRecDepth 100000 in
theorem ins_grow_vals (w : World) (base g gs n i : Nat) (xs news : List Value) (hown : w.ownsRow base 47 7 (.slice (some ⟨gs, 0, none⟩) n n) n xs) (hn : n ≤ 1000) (hi : i < n) (hb : base ≤ w.heap.size) (hl : news.length = 7)
    (hgl : g < w.heap.size) (hnews : ∀ j u, news[j]? = some u → w.cell? ⟨g, j, none⟩ = some u) (h1 : ∀ u ∈ news, u.oneCell' = true) (hx1 : ∀ u ∈ xs, u.oneCell' = true) :
    Calls Tryz.prog 80 #[.slice (some ⟨gs, 0, none⟩) n n, .int .i64 i, .slice (some ⟨g, 0, none⟩) 1 1] w (InsPost base 47 7 (n + 1) (xs.take (i * 7) ++ (news ++ xs.drop (i * 7))) (.slice (some ⟨gs, 0, none⟩) n n) w) := by
  obtain ⟨i0, hi0, hz0, hzs, hzb⟩ := info_parts info_value
  have hsz : (Tryz.prog.info? 47).map (·.size) = some 7 := by rw [hi0]; simp [hzs]
  have hlx : xs.length = n * 7 := hown.1
  have hgsl : gs < w.heap.size := by
    rcases own_cases hown with ⟨h, _⟩ | ⟨g', cap', h, _, h2, _⟩
    · simp at h
    · simp only [Value.slice.injEq, Option.some.injEq, Addr.mk.injEq, and_true, true_and] at h
      rw [h.1]; exact h2
  have hcl : ∀ j u, xs[j]? = some u → w.cell? ⟨gs, j, none⟩ = some u := fun j u hj => by
    have hjl : j < n * 7 := by rw [← hlx]; exact (List.getElem?_eq_some_iff.1 hj).1
    rw [hown.cellAt j hjl]; exact hj
  have hdl : (xs.drop (i * 7)).length = (n - i) * 7 := by rw [List.length_drop, hlx]; omega
  have htl : (xs.take (i * 7)).length = i * 7 := by rw [List.length_take, hlx]; omega
  have hkk : (n : Int) + 1 - (i : Int) = ((n + 1 - i : Nat) : Int) := by omega
  have hik : i + (n + 1 - i) = n + 1 := by omega
  have hold : (Builtin.firstCells i0.size i (.slice (some ⟨gs, 0, none⟩) i n)).run Tryz.prog w.drew = .ok (xs.take (i * 7)).toArray w.drew := by
    rw [hzs]
    exact run_firstCells_some w.drew 7 i ⟨gs, 0, none⟩ i n (xs.take (i * 7)) htl (fun j v hj => by
      rw [addr_vals]
      rw [List.getElem?_take] at hj
      split at hj
      · exact hcl j v hj
      · cases hj)
  obtain ⟨G, hG⟩ : ∃ G, G = grownCap w (n + 1) n 47 := ⟨_, rfl⟩
  have hGn : n + 1 ≤ G := by rw [hG]; exact grownCap_ge w _ _ _
  have hGm : G ≤ maxLen := by rw [hG]; exact grownCap_le_maxLen w (n + 1) n 47 (by unfold maxLen; omega)
  obtain ⟨R, hR⟩ : ∃ R : Array Value, R = (xs.take (i * 7)).toArray ++ Builtin.zeroCells (Value.cells (.agg #[.int .i64 0, .string ⟨#[]⟩, .int .i64 0, .int .i64 0, .int .i64 0, .slice none 0 0, .slice none 0 0])) (n + 1 - i) ++ Builtin.zeroCells (Value.cells (.agg #[.int .i64 0, .string ⟨#[]⟩, .int .i64 0, .int .i64 0, .int .i64 0, .slice none 0 0, .slice none 0 0])) (G - (n + 1)) := ⟨_, rfl⟩
  have hrz : ∀ ty, (Builtin.append_ #[42, 3] ty #[.slice (some ⟨gs, 0, none⟩) i n, .int .i64 ((n + 1 - i : Nat) : Int)]).run Tryz.prog w =
      .ok (.slice (some ⟨w.heap.size, 0, none⟩) (n + 1) G) (w.drew.alloc (.cells R 47)) := fun ty => by
    have h := Lib.run_append_grow_zeros (P := Tryz.prog) w 42 3 ty 47 i0 _ .i64 .i64 und_vals (by kernel_rfl) hi0 hz0 (some ⟨gs, 0, none⟩) i n (xs.take (i * 7)) hold (n + 1 - i) (by omega) (by omega) (by omega) (by omega) (by rw [hzb]; omega) (by rw [hzb, hik]; exact growslice_fits (by omega) (by omega))
    rw [hik, ← hG, ← hR] at h
    exact h
  have hRs : R.size = G * 7 := by
    rw [hR]; simp [Builtin.zeroCells, Value.cells, hlx]; omega
  have hRt : R.toList.take (i * 7) = xs.take (i * 7) := by
    rw [hR]; simp only [Array.toList_append, List.append_assoc]
    rw [List.take_append_of_le_length (by rw [htl]; omega), List.take_of_length_le (by rw [htl]; omega)]
  obtain ⟨W1, hW1⟩ : ∃ W1, W1 = w.drew.alloc (.cells R 47) := ⟨_, rfl⟩
  rw [← hW1] at hrz
  have hg1 : W1.heap[w.heap.size]? = some (.cells R 47 (0, 0)) := by rw [hW1]; exact heap_alloc_new w.drew _
  have hgo : ∀ k, k < w.heap.size → W1.heap[k]? = w.heap[k]? := fun k hk => by rw [hW1]; exact heap_alloc_old w.drew _ hk
  have hcp1 : ∀ ty dc, (Builtin.copy_ #[42, 42] ty #[.slice (some ⟨w.heap.size, i * 7, none⟩) (n + 1 - i) dc, .slice (some ⟨g, 0, none⟩) 1 1]).run Tryz.prog W1 = .ok (goInt (1 : Nat)) (W1.setRow w.heap.size (R.toList.take (i * 7) ++ news ++ R.toList.drop (i * 7 + news.length)).toArray) := fun ty dc => by
    have := run_copyR (P := Tryz.prog) W1 42 42 ty 47 7 w.heap.size (i * 7) (n + 1 - i) dc ⟨g, 0, none⟩ 1 1 R 47 news 1 und_vals hsz hg1 (by simp only [Nat.min_def]; split <;> omega) (by rw [hl])
      (fun j u hj => by rw [addr_vals, World.cell?_of_block (w := w) (hgo g hgl)]; exact hnews j u hj) (by rw [hl, hRs]; omega) h1
    skip
    exact this
  obtain ⟨c1, hc1⟩ : ∃ c1, c1 = (R.toList.take (i * 7) ++ news ++ R.toList.drop (i * 7 + news.length)).toArray := ⟨_, rfl⟩
  rw [← hc1] at hcp1
  obtain ⟨W2, hW2⟩ : ∃ W2, W2 = W1.setRow w.heap.size c1 := ⟨_, rfl⟩
  rw [← hW2] at hcp1
  have hg2 : W2.drew.heap[w.heap.size]? = some (.cells c1 47 (0, 0)) := by rw [hW2]; exact setRow_heap hg1
  have hgo2 : ∀ k, k < w.heap.size → W2.drew.heap[k]? = w.heap[k]? := fun k hk => by rw [hW2, heap_drew, setRow_other (by omega)]; exact hgo k hk
  have hc1l : c1.size = G * 7 := by
    rw [hc1]; simp [hRs, hl]; omega
  have hcp2 : ∀ ty dc sc, (Builtin.copy_ #[42, 42] ty #[.slice (some ⟨w.heap.size, (i + 1) * 7, none⟩) (n - i) dc, .slice (some ⟨gs, i * 7, none⟩) (n - i) sc]).run Tryz.prog W2.drew = .ok (goInt (n - i : Nat)) (W2.drew.setRow w.heap.size (c1.toList.take (i * 7 + 7) ++ xs.drop (i * 7) ++ c1.toList.drop (i * 7 + 7 + (xs.drop (i * 7)).length)).toArray) := fun ty dc sc => by
    have := run_copyR (P := Tryz.prog) W2.drew 42 42 ty 47 7 w.heap.size (i * 7 + 7) (n - i) dc ⟨gs, i * 7, none⟩ (n - i) sc c1 47 (xs.drop (i * 7)) (n - i) und_vals hsz hg2 (by simp only [Nat.min_def]; split <;> omega) hdl
      (fun j u hj => by rw [List.getElem?_drop] at hj; have := hcl _ u hj; rw [show (Addr.add ⟨gs, i * 7, none⟩ j : Addr) = ⟨gs, i * 7 + j, none⟩ from by simp [Addr.add]; try (intro h; exact h.symm), World.cell?_of_block (w := w) (hgo2 gs hgsl)]; exact this) (by rw [hdl, hc1l]; omega) (fun u hu => hx1 u (List.mem_of_mem_drop hu))
    rw [show (i + 1) * 7 = i * 7 + 7 by omega]
    exact this
  have hfin := grow_list R.toList xs news (i * 7) (n * 7) 7 (by omega) hlx hRt hl (by simp [hRs]; omega)
  have HF := Lib.hid hfin; have HC1 := Lib.hid hc1; have HW1 := Lib.hid hW1; have HW2 := Lib.hid hW2; have HL := Lib.hid hl; have HG2 := Lib.hid hg2; have HGO := Lib.hid hgo2
  have HRS := Lib.hid (show R.toList.length = G * 7 by rw [Array.length_toList, hRs]); have HGM := Lib.hid hGm
  have hcm' : G ≤ 9223372036854775807 := by unfold maxLen at hGm; omega
  clear hfin hc1 hl hown hi0 hz0 hzs hzb hsz hcl hdl hnews h1 hx1 hg1 hgo hlx hc1l hW1 hW2 hR hRs hRt hold htl hg2 hgo2 hG hGm
  have hz2 : ¬ ((i : Int) = (n : Int)) := by omega
  have hw1 : IntKind.i64.wrap ((i : Int) + 1) = (i : Int) + 1 := by rw [IntKind.wrap_i64]; omega
  have hb1 : (0 : Int) ≤ (i : Int) + 1 := by omega
  have htn : ((i : Int) + 1).toNat = i + 1 := by omega
  have hb2 : ¬ (G = i + 1) := by omega
  have hb3 : (i : Int) ≤ (n : Int) + 1 := by omega
  have hb5 : (i : Int) + 1 ≤ (n : Int) + 1 := by omega
  have hb4 : ¬ (G = i) := by omega
  have hb8 : ¬ (n = i) := by omega
  have hb9 : (i : Int) ≤ (n : Int) := by omega
  have hb7 : n + 1 - (i + 1) = n - i := by omega
  go_enter Tryz.func80, Tryz.ntmps80
  go_wp2_with (at_builtin; refine wpList_append_run _ rfl (.tmp 34) (.tmp 39) 42 3 rfl _ _ rfl rfl (hrz _) ?_)
  go_region_law (refine step_copy_runI rfl _ _ 42 42 rfl _ _ (by simp [Act.eval, Act.put]) (by simp [Act.eval, Act.put]) (hcp2 _ _ _) ?_)
  go_wp2
  go_ret
  obtain ⟨f1, f2⟩ := HF.out
  have hcc : c1.toList = R.toList.take (i * 7) ++ news ++ R.toList.drop (i * 7 + news.length) := by rw [HC1.out]
  rw [← hcc] at f1 f2
  have hr0 := HRS.out
  simp only [List.append_assoc, List.length_drop] at f1 f2
  refine ⟨_, rfl, own_of hb (setRow_heap HG2.out) hGn HGM.out ?_ ?_, ?_, by simp [Value.ownBlock]⟩
  · simp only [List.size_toArray, List.append_assoc, List.length_drop]; rw [f2]; exact hr0
  · simp only [Nat.add_mul, Nat.one_mul, Nat.mul_one, List.append_assoc, List.length_drop]; exact f1
  · refine ⟨by rw [HW2.out, HW1.out]; rfl, by rw [HW2.out, HW1.out]; rfl, by rw [HW2.out, HW1.out]; rfl, by rw [HW2.out, HW1.out]; simp, fun k hk hne => ?_⟩
    rw [setRow_other (by omega), HGO.out k hk]
/-- slices.Insert of one element, wherever it goes. -/
theorem insert_vals (w : World) (base g n i : Nat) (s : Value) (xs news : List Value) (hown : w.ownsRow base 47 7 s n xs) (hn : n ≤ 1000) (hi : i ≤ n) (hb : base ≤ w.heap.size) (hl : news.length = 7)
    (tA : TypeId) (kA : Array Value) (hg : w.heap[g]? = some (.cells kA tA (0, 0))) (hnews : ∀ j u, news[j]? = some u → w.cell? ⟨g, j, none⟩ = some u) (h1 : ∀ u ∈ news, u.oneCell' = true) (hgs : s.ownBlock ≠ some g) (hx1 : ∀ u ∈ xs, u.oneCell' = true) :
    Calls Tryz.prog 80 #[s, .int .i64 i, .slice (some ⟨g, 0, none⟩) 1 1] w (InsPost base 47 7 (n + 1) (xs.take (i * 7) ++ (news ++ xs.drop (i * 7))) s w) := by
  have hgl : g < w.heap.size := lt_of_block hg
  have hlx : xs.length = n * 7 := hown.1
  rcases own_cases hown with ⟨rfl, rfl⟩ | ⟨gs, cap, rfl, _, _, hnc, _⟩
  · obtain rfl : i = 0 := by omega
    have : xs = [] := by apply List.length_eq_zero_iff.1; omega
    subst this
    simpa using ins_nil_vals w base g news hb hl hnews h1
  · by_cases hin : i = n
    · subst hin
      have := ins_end_vals w base g gs i cap xs news hown hn hb hl hnews h1
      rwa [List.take_of_length_le (by omega), List.drop_of_length_le (by omega), List.append_nil]
    · by_cases hc : n + 1 ≤ cap
      · exact ins_shift_vals w base g gs n cap i xs news hown hn (by omega) hc hl tA kA hg hnews h1 (fun h => hgs (by rw [h]; rfl)) hx1
      · obtain rfl : n = cap := by omega
        exact ins_grow_vals w base g gs n i xs news hown hn (by omega) hb hl hgl hnews h1 hx1
end Go.Proofs.YtoiemkifgdnhaaaGreatDoor
namespace Go.Proofs.YtoiemkifgdnhaaaGreatDoor
open Go Go.RowKit
section
variable {P : Program}
theorem append_fresh (w : World) (base : Nat) (t ty e : TypeId) (i : TypeInfo) (z : Value) (size bytes : Nat) (ht : P.underlying t = some (.slice e)) (hi : P.info? e = some i) (hz : i.zero = some z)
    (hsize : i.size = size) (hby : i.bytes = bytes) (hzs : z.cells.size = size) (hsz : 0 < size)
    (v : Value) (n : Nat) (xs : List Value) (hown : w.ownsRow base e size v n xs)
    (a : Addr) (m c : Nat) (news : List Value) (hl : news.length = m * size) (hnews : ∀ j u, news[j]? = some u → w.cell? (a.add j) = some u) (h1 : ∀ u ∈ news, u.oneCell' = true)
    (h63 : n + m ≤ maxLen) (hbytes : (n + m) * bytes ≤ 140737488355328) {v' : Value} {w' : World}
    (hr : (Builtin.append_ #[t, t] ty #[v, .slice (some a) m c]).run P w = .ok v' w') : v'.ownBlock = v.ownBlock ∨ ∀ g, v'.ownBlock = some g → w.heap.size ≤ g := by
  have hsmall : n + m ≤ 9223372036854775807 := by simp only [maxLen] at h63; omega
  rcases hown.2 with ⟨rfl, rfl⟩ | ⟨g, cap, cur, rfl, hbg, hg, hnc, hcm, hcs, htake⟩
  · have hx : xs = [] := List.eq_nil_of_length_eq_zero (by simpa using hown.1)
    subst hx
    obtain ⟨v2, w2, hr2, ho2, _⟩ := run_append_own (P := P) w w.heap.size t ty e i z size bytes ht hi hz hsize hby hzs hsz _ 0 [] (World.ownsRow_nil w w.heap.size e size) a m c news hl hnews h1 h63 hbytes (Nat.le_refl _)
    rw [hr] at hr2
    simp only [Result.ok.injEq] at hr2
    obtain ⟨rfl, rfl⟩ := hr2
    exact .inr fun g hg => (ho2.lt g hg).1
  · subst hsize
    by_cases hroom : n + m ≤ cap
    · have hfit : n * i.size + news.length ≤ cur.size := by rw [hl, hcs, ← Nat.add_mul]; exact Nat.mul_le_mul_right _ hroom
      have hr2 := run_append_room (P := P) w t ty e i ht hi g n cap cur hg a m c news hl hnews h1 hroom hfit
      rw [hr] at hr2
      simp only [Result.ok.injEq] at hr2
      obtain ⟨rfl, rfl⟩ := hr2
      exact .inl rfl
    · have holds : ∀ j u, xs[j]? = some u → w.cell? ((⟨g, 0, none⟩ : Addr).add j) = some u := hown.cells (g := g) rfl
      have hr2 := run_append_grow (P := P) w t ty e i z ht hi hz ⟨g, 0, none⟩ n cap xs hown.1 holds a m c news hl hnews (by omega) (by omega) (growslice_fits (by omega) (by rw [hby]; exact hbytes))
      rw [hr] at hr2
      simp only [Result.ok.injEq] at hr2
      obtain ⟨rfl, rfl⟩ := hr2
      right; intro g' h
      simp [Value.ownBlock] at h
      omega
theorem wpList_app {w : World} {ops : Array Oper} {rest : List Oper} {o : Oper} {a : Act} {Q : Exit → Act → World → Prop} (hgd : o.guard = none) (s x : Operand) (t : TypeId)
    (ho : o.op = .call { callee := .builtin .append, args := #[s, x], argTypes := #[t, t] })
    (base : Nat) (e : TypeId) (i : TypeInfo) (z : Value) (size bytes : Nat) (ht : P.underlying t = some (.slice e)) (hi : P.info? e = some i) (hz : i.zero = some z)
    (hsize : i.size = size) (hby : i.bytes = bytes) (hzs : z.cells.size = size) (hsz : 0 < size)
    (v : Value) (n : Nat) (xs : List Value) (hs : a.eval s = v) (hown : w.ownsRow base e size v n xs)
    (ad : Addr) (m c : Nat) (news : List Value) (hx : a.eval x = .slice (some ad) m c) (hl : news.length = m * size) (hnews : ∀ j u, news[j]? = some u → w.cell? (ad.add j) = some u) (h1 : ∀ u ∈ news, u.oneCell' = true)
    (h63 : n + m ≤ maxLen) (hbytes : (n + m) * bytes ≤ 140737488355328) (hbase : base ≤ w.heap.size)
    (h : ∀ v' w', w'.ownsRow base e size v' (n + m) (xs ++ news) → w.grownBy w' v.ownBlock → (v'.ownBlock = v.ownBlock ∨ ∀ g, v'.ownBlock = some g → w.heap.size ≤ g) → wpList P ops Q rest (a.put o.dst v') w') : wpList P ops Q (o :: rest) a w := by
  obtain ⟨v', w', hr, h2, h3, _⟩ := run_append_own (P := P) w base t o.type e i z size bytes ht hi hz hsize hby hzs hsz v n xs hown ad m c news hl hnews h1 h63 hbytes hbase
  exact wpList_append_run w hgd s x t t ho v _ hs hx hr (h v' w' h2 h3 (append_fresh w base t o.type e i z size bytes ht hi hz hsize hby hzs hsz v n xs hown ad m c news hl hnews h1 h63 hbytes hr))
end
end Go.Proofs.YtoiemkifgdnhaaaGreatDoor
