/- Zeros appended to a row of the call's own; rows of zeros; what is needed of answers that are wrong. No conditions. -/
import Derived.Test.YtoiemkifgdnhaaaGreatDoorG2
import Derived.Test.YtoiemkifgdnhaaaGreatDoorF1
import Derived.Lib.AppendZerosOnto
namespace Go.Proofs.YtoiemkifgdnhaaaGreatDoor
open Go Go.RowKit
theorem run_append_own_zeros {P : Program} (w : World) (base : Nat) (t tn ty e : TypeId) (i : TypeInfo) (z : Value) (size bytes : Nat) (kq kn : IntKind) (ht : P.underlying t = some (.slice e)) (htn : P.underlying tn = some (.int kn)) (hi : P.info? e = some i) (hz : i.zero = some z)
    (hsize : i.size = size) (hby : i.bytes = bytes) (hzs : z.cells.size = size) (hsz : 0 < size) (v : Value) (n : Nat) (xs : List Value) (hown : w.ownsRow base e size v n xs) (m : Nat) (hm : 0 < m) (h1 : ∀ u ∈ (Builtin.zeroCells z.cells m).toList, u.oneCell' = true)
    (h63 : n + m ≤ maxLen) (hbytes : (n + m) * bytes ≤ 140737488355328) (hbase : base ≤ w.heap.size) :
    ∃ v' w', (Builtin.append_ #[t, tn] ty #[v, .int kq m]).run P w = .ok v' w' ∧ w'.ownsRow base e size v' (n + m) (xs ++ (Builtin.zeroCells z.cells m).toList) ∧ w.grownBy w' v.ownBlock ∧ (v'.ownBlock = v.ownBlock ∨ v'.ownBlock = some w.heap.size) := by
  subst hsize
  subst hby
  have hsmall : n + m ≤ 9223372036854775807 := by simp only [maxLen] at h63; omega
  have hzl : (Builtin.zeroCells z.cells m).toList.length = m * i.size := by rw [Array.length_toList, size_zeroCells, hzs]
  have hlen : (xs ++ (Builtin.zeroCells z.cells m).toList).length = (n + m) * i.size := by rw [List.length_append, hown.1, hzl, Nat.add_mul]
  have hmb : m * i.bytes ≤ 140737488355328 := Nat.le_trans (Nat.mul_le_mul_right _ (by omega)) hbytes
  have grown : ∀ (old : Nat), old < n + m → ∀ (row : Option Nat),
      (w.drew.alloc (.cells (xs.toArray ++ Builtin.zeroCells z.cells m ++ Builtin.zeroCells z.cells (grownCap w (n + m) old e - (n + m))) e)).ownsRow base e i.size
        (.slice (some ⟨w.heap.size, 0, none⟩) (n + m) (grownCap w (n + m) old e)) (n + m) (xs ++ (Builtin.zeroCells z.cells m).toList) ∧
      w.grownBy (w.drew.alloc (.cells (xs.toArray ++ Builtin.zeroCells z.cells m ++ Builtin.zeroCells z.cells (grownCap w (n + m) old e - (n + m))) e)) row := by
    intro old ho row
    have hge := grownCap_ge w (n + m) old e
    have hcm : grownCap w (n + m) old e ≤ maxLen := grownCap_le_maxLen w (n + m) old e h63
    refine ⟨⟨hlen, .inr ⟨w.heap.size, _, _, rfl, hbase, heap_alloc_new w.drew _, hge, hcm, ?_, ?_⟩⟩, ⟨rfl, rfl, rfl, by simp, fun k hk _ => heap_alloc_old w.drew _ hk⟩⟩
    · simp only [Array.size_append, List.size_toArray, size_zeroCells, hzs, hown.1, ← Nat.add_mul]
      congr 1
      omega
    · simp only [Array.toList_append, List.append_assoc]
      rw [← List.append_assoc, ← hlen]
      exact List.take_left
  rcases hown.2 with ⟨rfl, rfl⟩ | ⟨g, cap, cur, rfl, hbg, hg, hnc, hcm, hcs, htake⟩
  · have hx : xs = [] := List.eq_nil_of_length_eq_zero (by simpa using hown.1)
    subst hx
    have hr := Lib.run_append_nil_zeros (P := P) w t tn ty e i z kq kn ht htn hi hz m hm hsz (by omega) (by omega)
    have hgr := grown 0 (by omega) (Value.ownBlock (.slice none 0 0))
    simp only [Nat.zero_add, List.nil_append, Array.empty_append] at hgr ⊢
    exact ⟨_, _, hr, hgr.1, hgr.2, .inr rfl⟩
  · have holds : ∀ j u, xs[j]? = some u → w.cell? ((⟨g, 0, none⟩ : Addr).add j) = some u := hown.cells (g := g) rfl
    by_cases hroom : n + m ≤ cap
    · have hst := run_storeCells_at P g (n * i.size) e (Builtin.zeroCells z.cells m).toList 0 cur w hg (by rw [hzl, Nat.add_zero, hcs, ← Nat.add_mul]; exact Nat.mul_le_mul_right _ hroom) h1
      simp only [Nat.add_zero] at hst
      have hw : IntKind.i64.wrap (m : Int) = m := by rw [IntKind.wrap_i64]; omega
      have h48i : ¬ (281474976710656 < (m : Int) * (i.bytes : Int)) := by rw [← Int.natCast_mul]; omega
      have hneg : ¬ ((m : Int) < 0) := by omega
      have hns : ¬ (m * i.size = 0) := Nat.mul_ne_zero (by omega) (by omega)
      have hr : (Builtin.append_ #[t, tn] ty #[.slice (some ⟨g, 0, none⟩) n cap, .int kq m]).run P w = .ok (.slice (some ⟨g, 0, none⟩) (n + m) cap) (w.setRow g (cur.toList.take (n * i.size) ++ (Builtin.zeroCells z.cells m).toList ++ cur.toList.drop (n * i.size + (Builtin.zeroCells z.cells m).toList.length)).toArray) := by
        simp [Builtin.append_, run_underlying ht, run_underlying htn, sizeOf, typeInfo, zeroValue, hi, hz, asInt, asIntOf, hw, hneg, hns, h48i, hroom, Addr.add_lit, hst]
      refine ⟨_, _, hr, ⟨hlen, .inr ⟨g, cap, _, rfl, hbg, setRow_heap hg, hroom, hcm, ?_, ?_⟩⟩, ⟨rfl, rfl, rfl, by simp, fun k _ hk => setRow_other (fun e => hk (by simp [Value.ownBlock, e]))⟩, .inl rfl⟩
      · have hfit : n * i.size + (Builtin.zeroCells z.cells m).toList.length ≤ cur.size := by rw [hzl, hcs, ← Nat.add_mul]; exact Nat.mul_le_mul_right _ hroom
        simp only [List.size_toArray, List.length_append, List.length_take, List.length_drop, Array.length_toList] at hfit ⊢
        omega
      · rw [htake, ← hlen]
        exact List.take_left
    · have hold : (Builtin.firstCells i.size n (.slice (some ⟨g, 0, none⟩) n cap)).run P w.drew = .ok xs.toArray w.drew := run_firstCells_some (P := P) w.drew i.size n ⟨g, 0, none⟩ n cap xs hown.1 holds
      have hr := Lib.run_append_grow_zeros (P := P) w t tn ty e i z kq kn ht htn hi hz (some ⟨g, 0, none⟩) n cap xs hold m hm hsz (by omega) (by omega) (by omega) (growslice_fits (by omega) hbytes)
      have hgr := grown cap (by omega) (Value.ownBlock (.slice (some ⟨g, 0, none⟩) n cap))
      exact ⟨_, _, hr, hgr.1, hgr.2, .inr rfl⟩
def zz (n : Nat) : List ZV := List.replicate n (0, none, 0)
theorem zero11 : (Builtin.zeroCells #[.int .i64 0, .string ⟨#[]⟩, .int .i64 0, .int .i64 0, .int .i64 0, .slice none 0 0, .slice none 0 0] 11).toList = cvs (zz 11) := by kernel_rfl
theorem zero11' : (Builtin.zeroCells (Value.agg #[.int .i64 0, .string ⟨#[]⟩, .int .i64 0, .int .i64 0, .int .i64 0, .slice none 0 0, .slice none 0 0]).cells 11).toList = cvs (zz 11) := zero11
theorem made_zz (n : Nat) : (madeCells #[.int .i64 0, .string ⟨#[]⟩, .int .i64 0, .int .i64 0, .int .i64 0, .slice none 0 0, .slice none 0 0] (n * 7)).toList = cvs (zz n) := by
  apply List.ext_getElem?
  intro j
  by_cases hj : j < n * 7
  · have h7 : j % 7 < 7 := Nat.mod_lt _ (by omega)
    have hd : j / 7 < n := by omega
    have e : j = j / 7 * 7 + j % 7 := by omega
    conv => rhs; rw [e, cvs_get (zz n) h7]
    have hz : (zz n)[j / 7]? = some (0, none, 0) := by unfold zz; rw [List.getElem?_replicate, if_pos hd]
    rw [hz]
    simp only [madeCells, Array.toList_map, Array.toList_range, List.getElem?_map]
    rw [List.getElem?_range hj]
    simp only [Option.map_some, Option.bind_some]
    have key : ∀ r, r < 7 → some ((#[.int .i64 0, .string ⟨#[]⟩, .int .i64 0, .int .i64 0, .int .i64 0, .slice none 0 0, .slice none 0 0] : Array Value)[r]!) = (cv (0, none, 0))[r]? := by
      intro r hr
      have : r = 0 ∨ r = 1 ∨ r = 2 ∨ r = 3 ∨ r = 4 ∨ r = 5 ∨ r = 6 := by omega
      rcases this with rfl | rfl | rfl | rfl | rfl | rfl | rfl <;> rfl
    exact key _ h7
  · rw [List.getElem?_eq_none (by rw [Array.length_toList, size_madeCells]; omega), List.getElem?_eq_none (by rw [cvs_len]; simp [zz]; omega)]
/-- Answers of the call's own. -/
def AnsAt (w : World) (B : Nat) (o : Value) (k : Nat) : Prop := ∃ zss, OwnRows w B o zss ∧ zss.length = k ∧ ∀ zs ∈ zss, zs.length ≤ 30 ∧ ∀ z ∈ zs, z.1 ≤ 10
theorem AnsAt.rows {w : World} {B k : Nat} {o : Value} (h : AnsAt w B o k) (hk : k ≤ 13) : ∃ A, ValRows w o A ∧ A.length = k ∧ ∀ l ∈ A, l.length ≤ 30 := by
  obtain ⟨zss, h1, h2, h3⟩ := h
  refine ⟨zvals zss, h1.rows (by omega) (fun zs hz => ⟨by have := (h3 zs hz).1; omega, (h3 zs hz).2⟩), by simp [zvals, h2], fun l hl => ?_⟩
  obtain ⟨zs, hz, rfl⟩ := List.mem_map.1 hl
  rw [List.length_map]; exact (h3 zs hz).1
theorem AnsAt.below {w w' : World} {B k : Nat} {o : Value} (h : AnsAt w B o k) (hb : Below w.heap.size w w') : AnsAt w' B o k := by
  obtain ⟨zss, h1, h2, h3⟩ := h
  exact ⟨zss, h1.below hb, h2, h3⟩
theorem Vals.put {L gv m c : Nat} {S : Nat → Prop} {w w' : World} {xs : List Nat} (h : Vals w (.slice (some ⟨gv, 0, none⟩) m c) xs) (ht : Tch L gv S w w') (hL : L ≤ gv) (hz : ∀ j, j < m → (∃ x, x ≤ 10 ∧ VAt w' gv (j * 7) x) ∨ ∀ i, i < 7 → ¬ S (j * 7 + i)) :
    ∃ xs', xs'.length = xs.length ∧ Vals w' (.slice (some ⟨gv, 0, none⟩) m c) xs' := by
  obtain ⟨⟨ao, cc, e1, e2, e3⟩, n1, n2⟩ := h
  simp only [Value.slice.injEq] at e1
  obtain ⟨rfl, rfl, rfl⟩ := e1
  by_cases hm : xs.length = 0
  · exact ⟨[], hm.symm, ⟨_, c, by rw [hm]; rfl, by simp, fun h => absurd rfl h⟩, by simp, by simp⟩
  obtain ⟨b, off, e4, e5, e6⟩ := e3 hm
  simp only [Option.some.injEq, Addr.mk.injEq, and_true] at e4
  obtain ⟨rfl, rfl⟩ := e4
  have hall : ∀ j, j < xs.length → ∃ x, x ≤ 10 ∧ VAt w' gv (j * 7) x := by
    intro j hj
    rcases hz j hj with hz | hz
    · exact hz
    · have e7 := e6 j hj
      rw [Nat.zero_add] at e7
      exact ⟨_, getD_le n2 hj, e7.tch ht hL e5 (.inr hz)⟩
  obtain ⟨l, l1, l2⟩ := list_of 0 hall
  refine ⟨l, l1, ⟨_, c, by rw [l1], by rw [l1]; exact e2, fun _ => ⟨gv, 0, rfl, Nat.lt_of_lt_of_le e5 ht.1, fun t ht2 => ?_⟩⟩, by omega, fun x hx => ?_⟩
  · rw [Nat.zero_add]; exact (l2 t (by omega)).2
  · obtain ⟨t, ht2, rfl⟩ := List.mem_iff_getElem.1 hx
    have := (l2 t (by omega)).1
    rw [List.getD_eq_getElem?_getD, List.getElem?_eq_getElem ht2] at this
    exact this
/-- The first answer of the first program is another one. -/
theorem OwnRows.first {w : World} {B gv c x : Nat} {v : Value} {us : List Value} {zss : List (List ZV)} {zs : List ZV} {u0 u1 u2 u3 u4 u5 u6 : Value} (h : w.ownsRow B 42 1 v zss.length us) (h2 : us.length = zss.length) (h13 : zss.length ≤ 13)
    (h3 : ∀ (k : Nat) (u : Value) (zs : List ZV), us[k]? = some u → zss[k]? = some zs → w.ownsRow B 47 7 u zs.length (cvs zs)) (h4 : Apart us) (hz : ∀ zs ∈ zss, zs.length ≤ 30 ∧ ∀ z ∈ zs, z.1 ≤ 10)
    (hu : us[0]? = some (.slice (some ⟨gv, 0, none⟩) zs.length c)) (hzs : zss[0]? = some zs) (hx : x ≤ 10)
    (p0 : w.cell? ⟨gv, 0, none⟩ = some u0) (p1 : w.cell? ⟨gv, 0 + 1, none⟩ = some u1) (p2 : w.cell? ⟨gv, 0 + 2, none⟩ = some u2) (p3 : w.cell? ⟨gv, 0 + 3, none⟩ = some u3) (p4 : w.cell? ⟨gv, 0 + 4, none⟩ = some u4) (p5 : w.cell? ⟨gv, 0 + 5, none⟩ = some u5) (p6 : w.cell? ⟨gv, 0 + 6, none⟩ = some u6) :
    ∃ A, ValRows (((((((w.setCell ⟨gv, 0, none⟩ (.int .i64 (kd x))).setCell ⟨gv, 0 + 1, none⟩ (.string (st x))).setCell ⟨gv, 0 + 2, none⟩ (.int .i64 (dn x))).setCell ⟨gv, 0 + 3, none⟩ (.int .i64 0)).setCell ⟨gv, 0 + 4, none⟩ (.int .i64 (nn x))).setCell ⟨gv, 0 + 5, none⟩ (.slice none 0 0)).setCell ⟨gv, 0 + 6, none⟩ (.slice none 0 0)) v A ∧ A.length = zss.length := by
  have hr0 := h3 0 _ _ hu hzs
  have hgv := hr0.lt gv rfl
  have hT : Tch B gv (fun o => o < 7) w (((((((w.setCell ⟨gv, 0, none⟩ (.int .i64 (kd x))).setCell ⟨gv, 0 + 1, none⟩ (.string (st x))).setCell ⟨gv, 0 + 2, none⟩ (.int .i64 (dn x))).setCell ⟨gv, 0 + 3, none⟩ (.int .i64 0)).setCell ⟨gv, 0 + 4, none⟩ (.int .i64 (nn x))).setCell ⟨gv, 0 + 5, none⟩ (.slice none 0 0)).setCell ⟨gv, 0 + 6, none⟩ (.slice none 0 0)) := by repeat (first | with_reducible exact Tch.refl _ _ _ _ | refine Tch.set ?_ (.inr (.inr ⟨rfl, by omega⟩)) _)
  have hV := vat_put (w := w) (b := gv) (o := 0) (x := x) (c := none) (d := 0) p0 p1 p2 p3 p4 p5 p6
  have hne : v.ownBlock ≠ some gv := by
    intro e
    rcases own_apart hr0 h (by decide) with e2 | e2
    · simp [Value.ownBlock] at e2
    · exact e2 e.symm
  have hh : ((((((((w.setCell ⟨gv, 0, none⟩ (.int .i64 (kd x))).setCell ⟨gv, 0 + 1, none⟩ (.string (st x))).setCell ⟨gv, 0 + 2, none⟩ (.int .i64 (dn x))).setCell ⟨gv, 0 + 3, none⟩ (.int .i64 0)).setCell ⟨gv, 0 + 4, none⟩ (.int .i64 (nn x))).setCell ⟨gv, 0 + 5, none⟩ (.slice none 0 0)).setCell ⟨gv, 0 + 6, none⟩ (.slice none 0 0)) : World).ownsRow B 42 1 v zss.length us := ownsRow_setCell_other (ownsRow_setCell_other (ownsRow_setCell_other (ownsRow_setCell_other (ownsRow_setCell_other (ownsRow_setCell_other (ownsRow_setCell_other h hne _) hne _) hne _) hne _) hne _) hne _) hne _
  have hzm := hz zs (List.mem_of_getElem? hzs)
  have v0 := own_vals hr0 (by have := hzm.1; omega) hzm.2
  obtain ⟨xs', x1, x2⟩ := Vals.put v0 hT hgv.1 (fun j hj => by
    by_cases j0 : j = 0
    · subst j0; exact .inl ⟨x, hx, hV⟩
    · exact .inr fun i hi => by omega)
  have hl0 : 0 < zss.length := (List.getElem?_eq_some_iff.1 hzs).1
  refine ⟨(zvals zss).set 0 xs', ?_, by simp [zvals]⟩
  refine rows_own (us := us) (by simpa [zvals] using hh) (by simp [zvals, h2]) (by simp [zvals]; omega) (fun k u l hk hl => ?_)
  by_cases k0 : k = 0
  · subst k0
    rw [hu] at hk
    rw [List.getElem?_set_self (by simp [zvals]; exact hl0)] at hl
    cases hk; cases hl
    exact x2
  · rw [List.getElem?_set_ne (fun e => k0 e.symm), zvals, List.getElem?_map] at hl
    cases hq : zss[k]? with
    | none => rw [hq] at hl; simp at hl
    | some zk =>
      rw [hq] at hl; simp at hl; subst hl
      have hzk := hz zk (List.mem_of_getElem? hq)
      have hrk := h3 k u zk hk hq
      exact (own_vals hrk (by have := hzk.1; omega) hzk.2).tch hT (fun b hb => (hrk.lt b hb).1) (.inl fun e => h4 k 0 u _ gv k0 hk hu e rfl)
theorem cvs_append (a b : List ZV) : cvs (a ++ b) = cvs a ++ cvs b := by unfold cvs; rw [List.flatMap_append]
theorem groups_rows2 {w : World} {B : Nat} {o : Value} {A : List (List Nat)} {alive : List Int} {k : Int} (h : Lists w B o (groupsS A alive k)) (hn : A.length ≤ 500) : IntRows w o (groupsS A alive k) := by
  cases hr : rightS A with
  | false =>
    have e : groupsS A alive k = [] := by unfold groupsS; simp [hr]
    rw [e] at h ⊢
    exact h.rows (by simp) (by simp)
  | true =>
    have hal := alive_len A.length alive
    have hv : ∀ l ∈ A, ∀ x ∈ l, x ≤ 10 := fun l hl x hx => by have := (right_rows hr l hl).2 x hx; omega
    have hI := gfold_inv0 (k := k.toNat) hv (alivePs A.length alive) alive_lt
    have hc : groupsS A alive k = (gfold A k.toNat (alivePs A.length alive)).2 ∨ groupsS A alive k = [] := by
      unfold groupsS; split
      · exact .inl rfl
      · exact .inr rfl
    rcases hc with e | e
    · rw [e] at h ⊢
      have h1 := hI.len; have h2 := hI.most
      exact h.rows (by omega) fun l hl => by
        obtain ⟨a, b⟩ := hI.inner l hl
        exact ⟨by omega, fun x hx => by have := b x hx; omega⟩
    · rw [e] at h ⊢
      exact h.rows (by simp) (by simp)
end Go.Proofs.YtoiemkifgdnhaaaGreatDoor
