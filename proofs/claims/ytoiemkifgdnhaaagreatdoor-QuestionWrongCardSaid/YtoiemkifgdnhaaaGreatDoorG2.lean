/- Splitting by the reference: the laws that its walk needs. No conditions.
  Splitting by the reference: the walk. Conditions: each value is one of the eleven; the programs are there.
  Groups and useful inputs, by the reference. Conditions: each value is one of the eleven.
  QuestionGroups: the walk. No conditions. -/
import Derived.Test.YtoiemkifgdnhaaaGreatDoorG1
import Derived.Maps.AppendAt
import Derived.Test.YtoiemkifgdnhaaaGreatDoorL14
namespace Go.Proofs.YtoiemkifgdnhaaaGreatDoor
open Go Go.RowKit
section
variable {P : Program}
/-- append onto an own row, of nil or of nothing too. -/
theorem run_app2 (w : World) (base : Nat) (t ty e : TypeId) (i : TypeInfo) (z : Value) (size bytes : Nat) (ht : P.underlying t = some (.slice e)) (hi : P.info? e = some i) (hz : i.zero = some z)
    (hsize : i.size = size) (hby : i.bytes = bytes) (hzs : z.cells.size = size) (hsz : 0 < size) (v : Value) (n : Nat) (xs : List Value) (hown : w.ownsRow base e size v n xs)
    (ao : Option Addr) (m c : Nat) (news : List Value) (hl : news.length = m * size) (hnil : ao = none → m = 0) (hnews : ∀ ad, ao = some ad → ∀ j u, news[j]? = some u → w.cell? (ad.add j) = some u) (h1 : ∀ u ∈ news, u.oneCell' = true)
    (h63 : n + m ≤ maxLen) (hbytes : (n + m) * bytes ≤ 140737488355328) (hbase : base ≤ w.heap.size) :
    ∃ v' w', (Builtin.append_ #[t, t] ty #[v, .slice ao m c]).run P w = .ok v' w' ∧ w'.ownsRow base e size v' (n + m) (xs ++ news) ∧ w.grownBy w' v.ownBlock ∧ (v'.ownBlock = v.ownBlock ∨ v'.ownBlock = some w.heap.size) := by
  cases ao with
  | none =>
    obtain rfl := hnil rfl
    have hn0 : news = [] := List.eq_nil_of_length_eq_zero (by simpa using hl)
    subst hn0
    have hr : (Builtin.append_ #[t, t] ty #[v, .slice none 0 c]).run P w = .ok v w := by
      rcases own_cases hown with ⟨rfl, _⟩ | ⟨g, cap, rfl, _, _, hnc, _⟩
      · simp [Builtin.append_, run_underlying ht, sizeOf, typeInfo, hi, Builtin.lenOf, Builtin.firstCells]
      · simp [Builtin.append_, run_underlying ht, sizeOf, typeInfo, hi, Builtin.lenOf, Builtin.firstCells, hnc, storeCells]
    exact ⟨v, w, hr, by simpa using hown, World.grownBy.refl _ _, .inl rfl⟩
  | some ad =>
    obtain ⟨v', w', hr, h2, h3, _, h5⟩ := run_append_own_at (P := P) w base t ty e i z size bytes ht hi hz hsize hby hzs hsz v n xs hown ad m c news hl (hnews ad rfl) h1 h63 hbytes hbase
    exact ⟨v', w', hr, h2, h3, h5⟩
theorem wpList_app2 {w : World} {ops : Array Oper} {rest : List Oper} {o : Oper} {a : Act} {Q : Exit → Act → World → Prop} (hgd : o.guard = none) (s x : Operand) (t : TypeId)
    (ho : o.op = .call { callee := .builtin .append, args := #[s, x], argTypes := #[t, t] }) (base : Nat) (e : TypeId) (i : TypeInfo) (z : Value) (size bytes : Nat) (ht : P.underlying t = some (.slice e)) (hi : P.info? e = some i) (hz : i.zero = some z)
    (hsize : i.size = size) (hby : i.bytes = bytes) (hzs : z.cells.size = size) (hsz : 0 < size) (v : Value) (n : Nat) (xs : List Value) (hs : a.eval s = v) (hown : w.ownsRow base e size v n xs)
    (ao : Option Addr) (m c : Nat) (news : List Value) (hx : a.eval x = .slice ao m c) (hl : news.length = m * size) (hnil : ao = none → m = 0) (hnews : ∀ ad, ao = some ad → ∀ j u, news[j]? = some u → w.cell? (ad.add j) = some u) (h1 : ∀ u ∈ news, u.oneCell' = true)
    (h63 : n + m ≤ maxLen) (hbytes : (n + m) * bytes ≤ 140737488355328) (hbase : base ≤ w.heap.size)
    (h : ∀ v' w', w'.ownsRow base e size v' (n + m) (xs ++ news) → w.grownBy w' v.ownBlock → (v'.ownBlock = v.ownBlock ∨ v'.ownBlock = some w.heap.size) → wpList P ops Q rest (a.put o.dst v') w') : wpList P ops Q (o :: rest) a w := by
  obtain ⟨v', w', hr, h2, h3, h5⟩ := run_app2 (P := P) w base t o.type e i z size bytes ht hi hz hsize hby hzs hsz v n xs hown ao m c news hl hnil hnews h1 h63 hbytes hbase
  exact wpList_append_run w hgd s x t t ho v _ hs hx hr (h v' w' h2 h3 h5)
theorem step_app2 {w : World} {ops : Array Oper} {o : Oper} {a : Act} {K : Act → World → Prop} {Q : Exit → Act → World → Prop} {E : Prop} (hgd : o.guard = none) (s x : Operand) (t : TypeId)
    (ho : o.op = .call { callee := .builtin .append, args := #[s, x], argTypes := #[t, t] }) (base : Nat) (e : TypeId) (i : TypeInfo) (z : Value) (size bytes : Nat) (ht : P.underlying t = some (.slice e)) (hi : P.info? e = some i) (hz : i.zero = some z)
    (hsize : i.size = size) (hby : i.bytes = bytes) (hzs : z.cells.size = size) (hsz : 0 < size) (v : Value) (n : Nat) (xs : List Value) (hs : a.eval s = v) (hown : w.ownsRow base e size v n xs)
    (ao : Option Addr) (m c : Nat) (news : List Value) (hx : a.eval x = .slice ao m c) (hl : news.length = m * size) (hnil : ao = none → m = 0) (hnews : ∀ ad, ao = some ad → ∀ j u, news[j]? = some u → w.cell? (ad.add j) = some u) (h1 : ∀ u ∈ news, u.oneCell' = true)
    (h63 : n + m ≤ maxLen) (hbytes : (n + m) * bytes ≤ 140737488355328) (hbase : base ≤ w.heap.size)
    (h : ∀ v' w', w'.ownsRow base e size v' (n + m) (xs ++ news) → w.grownBy w' v.ownBlock → (v'.ownBlock = v.ownBlock ∨ v'.ownBlock = some w.heap.size) → K (a.put o.dst v') w') :
    if Region.wanted o (yielded ops a.tmps) = true then Oper.wp P o a w K Q else E := by
  have hw : Region.wanted o (yielded ops a.tmps) = true := by simp [Region.wanted, hgd]
  rw [if_pos hw]
  obtain ⟨v', w', hr, h2, h3, h5⟩ := run_app2 (P := P) w base t o.type e i z size bytes ht hi hz hsize hby hzs hsz v n xs hown ao m c news hl hnil hnews h1 h63 hbytes hbase
  exact wp_append_run w s x t t ho v _ hs hx hr (h v' w' h2 h3 h5)
end
/-- A list is put in. -/
theorem Lists.insertU {w' : World} {B : Nat} {s' u : Value} {ls : List (List Int)} {os : List Value} {l : List Int} (h2 : os.length = ls.length)
    (h3 : ∀ (k : Nat) (u : Value) (l : List Int), os[k]? = some u → ls[k]? = some l → w'.ownsRow B 3 1 u l.length (ci l)) (h4 : Apart os)
    {i : Nat} (hi : i ≤ ls.length) (hs : w'.ownsRow B 26 1 s' (ls.length + 1) (insAt os i u)) (hu : w'.ownsRow B 3 1 u l.length (ci l))
    (hf : ∀ (k : Nat) (x : Value) (g : Nat), os[k]? = some x → x.ownBlock = some g → u.ownBlock ≠ some g) : Lists w' B s' (insAt ls i l) := by
  have hi2 : i ≤ os.length := by omega
  refine ⟨insAt os i u, by rw [insAt_len _ _ _ hi]; exact hs, by rw [insAt_len _ _ _ hi, insAt_len _ _ _ hi2, h2], ?_, ?_⟩
  · intro k x y hx hy
    rw [insAt_get _ _ _ hi2] at hx; rw [insAt_get _ _ _ hi] at hy
    split at hx
    · rename_i hk; rw [if_pos hk] at hy; exact h3 _ _ _ hx hy
    · rename_i hk; rw [if_neg hk] at hy
      split at hx
      · rename_i hk2; rw [if_pos hk2] at hy; cases hx; cases hy; exact hu
      · rename_i hk2; rw [if_neg hk2] at hy; exact h3 _ _ _ hx hy
  · have key : ∀ (j : Nat) (x : Value), (insAt os i u)[j]? = some x → (j = i ∧ x = u) ∨ ∃ j', os[j']? = some x ∧ (j' = if j < i then j else j - 1) ∧ j ≠ i := by
      intro j x hx
      rw [insAt_get _ _ _ hi2] at hx
      split at hx
      · rename_i hk; exact .inr ⟨j, hx, by rw [if_pos hk], by omega⟩
      · rename_i hk
        split at hx
        · rename_i hk2; cases hx; exact .inl ⟨hk2, rfl⟩
        · exact .inr ⟨j - 1, hx, by rw [if_neg hk], by assumption⟩
    intro j k x x' g hjk hx hx' hg hg'
    rcases key j x hx with ⟨a1, rfl⟩ | ⟨j', a1, a2, a3⟩ <;> rcases key k x' hx' with ⟨b1, rfl⟩ | ⟨k', b1, b2, b3⟩
    · omega
    · exact hf k' x' g b1 hg' hg
    · exact hf j' x g a1 hg hg'
    · refine h4 j' k' x x' g ?_ a1 b1 hg hg'
      split at a2 <;> split at b2 <;> omega
/-- What stands at the heads of the groups. -/
theorem GLaw.head {A : List (List Nat)} {k : Nat} {ps : List Nat} {s : List Nat × List (List Int)} (h : GLaw A k ps s) {j : Nat} (hj : j < s.1.length) : ∃ (q : Nat) (rest : List Int), s.2.getD j [] = (q : Int) :: rest ∧ q ∈ ps ∧ gval A k q = s.1.getD j 0 := by
  have e0 : s.1.getD j 0 = s.1[j] := by rw [List.getD_eq_getElem?_getD, List.getElem?_eq_getElem hj]; rfl
  have e : s.2.getD j [] = pInts (sel A k ps s.1[j]) := by
    rw [List.getD_eq_getElem?_getD, h.lists, List.getElem?_map, List.getElem?_eq_getElem hj]; rfl
  obtain ⟨p, hp, hv⟩ := (h.vals s.1[j]).1 (List.getElem_mem _)
  have hm : p ∈ sel A k ps s.1[j] := by unfold sel; rw [List.mem_filter]; exact ⟨hp, by simpa using hv⟩
  cases hs : sel A k ps s.1[j] with
  | nil => rw [hs] at hm; cases hm
  | cons q rest =>
    have hq : q ∈ sel A k ps s.1[j] := by rw [hs]; exact List.mem_cons_self
    unfold sel at hq
    rw [List.mem_filter] at hq
    exact ⟨q, pInts rest, by rw [e, hs]; rfl, hq.1, by rw [e0]; simpa using hq.2⟩
/-- The place that the reference finds, among the first j values. -/
def atJ (xs : List Nat) (v j : Nat) : Nat := min j (posOf xs v)
def sameJ (xs : List Nat) (v j : Nat) : Int := if v ∈ xs ∧ posOf xs v < j then (posOf xs v : Nat) else -1
theorem at_step {xs : List Nat} (hs : xs.Pairwise (· < ·)) (v : Nat) {j : Nat} (hj : j < xs.length) : atJ xs v (j + 1) = if xs.getD j 0 < v then j + 1 else atJ xs v j := by
  obtain ⟨h1, h2⟩ := posOf_spec xs v
  unfold atJ
  by_cases h : xs.getD j 0 < v
  · rw [if_pos h]
    have : ¬ posOf xs v ≤ j := by
      intro hle
      have h3 := h2 (by omega)
      by_cases e : posOf xs v = j
      · rw [e] at h3; omega
      · have := sorted_lt hs (show posOf xs v < j by omega) hj; omega
    omega
  · rw [if_neg h]
    have : ¬ j < posOf xs v := fun hlt => h (h1 j hlt)
    omega
theorem same_step {xs : List Nat} (hs : xs.Pairwise (· < ·)) (v : Nat) {j : Nat} (hj : j < xs.length) : sameJ xs v (j + 1) = if v = xs.getD j 0 then (j : Int) else sameJ xs v j := by
  unfold sameJ
  by_cases h : v = xs.getD j 0
  · have hm : v ∈ xs := mem_getD.2 ⟨j, hj, h.symm⟩
    have hp : posOf xs v = j := by
      obtain ⟨a1, a2⟩ := posOf_mem hs hm
      rcases Nat.lt_trichotomy (posOf xs v) j with h3 | h3 | h3
      · have := sorted_lt hs h3 hj; omega
      · exact h3
      · have := sorted_lt hs h3 a1; omega
    rw [if_pos h, if_pos ⟨hm, by omega⟩, hp]
  · rw [if_neg h]
    by_cases hm : v ∈ xs
    · obtain ⟨a1, a2⟩ := posOf_mem hs hm
      have : posOf xs v ≠ j := fun e => h (by rw [← e, a2])
      by_cases h3 : posOf xs v < j
      · rw [if_pos ⟨hm, by omega⟩, if_pos ⟨hm, h3⟩]
      · rw [if_neg (fun h => by omega), if_neg (fun h => h3 h.2)]
    · rw [if_neg (fun h => hm h.1), if_neg (fun h => hm h.1)]
theorem at_end (xs : List Nat) (v : Nat) : atJ xs v xs.length = posOf xs v := by unfold atJ; have := posOf_le xs v; omega
theorem same_end {xs : List Nat} (hs : xs.Pairwise (· < ·)) (v : Nat) : sameJ xs v xs.length = if v ∈ xs then (posOf xs v : Int) else -1 := by
  unfold sameJ
  by_cases h : v ∈ xs
  · rw [if_pos ⟨h, (posOf_mem hs h).1⟩, if_pos h]
  · rw [if_neg (fun h' => h h'.1), if_neg h]
end Go.Proofs.YtoiemkifgdnhaaaGreatDoor
namespace Go.Proofs.YtoiemkifgdnhaaaGreatDoor
open Go Go.RowKit
theorem VAt.sev {w : World} {b o x : Nat} (h : VAt w b o x) : ∃ c d, w.cell? ⟨b, o, none⟩ = some (.int .i64 (kd x)) ∧ w.cell? ⟨b, o + 1, none⟩ = some (.string (st x)) ∧ w.cell? ⟨b, o + 2, none⟩ = some (.int .i64 (dn x)) ∧
  w.cell? ⟨b, o + 3, none⟩ = some (.int .i64 0) ∧ w.cell? ⟨b, o + 4, none⟩ = some (.int .i64 (nn x)) ∧ w.cell? ⟨b, o + 5, none⟩ = some (.slice c 0 d) ∧ w.cell? ⟨b, o + 6, none⟩ = some (.slice none 0 0) := h
theorem own_newH (w : World) (base : Nat) (e : TypeId) (sz n : Nat) (cs : List Value) (H : Nat) (hH : w.heap.size = H) (hb : base ≤ H) (hl : cs.length = n * sz) (hn : n ≤ maxLen) : (w.alloc (.cells cs.toArray e)).ownsRow base e sz (.slice (some ⟨H, 0, none⟩) n n) n cs := by
  subst hH; exact own_new w base e sz n cs hb hl hn
/-- A list is put in by three appends. -/
theorem Lists.ins3 {wr U w9 w10 w11 : World} {ob : Obj} {B n1 n2 n3 i : Nat} {x1 x2 x3 : List Value} {v1 v2 v3 s' u0 : Value} {os : List Value} {ls : List (List Int)} {l : List Int} (h2 : os.length = ls.length)
    (h3 : ∀ (k : Nat) (u : Value) (l : List Int), os[k]? = some u → ls[k]? = some l → wr.ownsRow B 3 1 u l.length (ci l)) (h4 : Apart os) (hi : i ≤ ls.length) (hbU : Below wr.heap.size wr U)
    (hu0 : U.ownsRow B 3 1 u0 l.length (ci l)) (hu0b : ∀ g, u0.ownBlock = some g → wr.heap.size ≤ g)
    (o1 : U.ownsRow B 26 1 v1 n1 x1) (g1 : U.grownBy w9 v1.ownBlock) (o2 : (w9.alloc ob).ownsRow B 26 1 v2 n2 x2) (g2 : (w9.alloc ob).grownBy w10 v2.ownBlock) (o3 : w10.ownsRow B 26 1 v3 n3 x3) (g3 : w10.grownBy w11 v3.ownBlock)
    (hs : w11.ownsRow B 26 1 s' (ls.length + 1) (insAt os i u0)) : Lists w11 B s' (insAt ls i l) := by
  have keep : ∀ (u : Value) (m : Nat) (xs : List Value), U.ownsRow B 3 1 u m xs → w11.ownsRow B 3 1 u m xs := by
    intro u m xs h
    have k1 := h.kept g1 (own_apart h o1 (by decide))
    have k2 := (k1.alloc ob).kept g2 (own_apart (k1.alloc ob) o2 (by decide))
    exact k2.kept g3 (own_apart k2 o3 (by decide))
  refine Lists.insertU h2 (fun k u l hu hl => keep _ _ _ (own_below (h3 k u l hu hl) hbU)) h4 hi hs (keep _ _ _ hu0) (fun k x g hx hg hg' => ?_)
  have a1 := hu0b g hg'
  have hk := (List.getElem?_eq_some_iff.1 hx).1
  have a2 := ((h3 k x (ls[k]'(by omega)) hx (List.getElem?_eq_getElem (by omega))).lt g hg).2
  omega
set_option maxRecDepth 100000 in
set_option maxHeartbeats 1000000 in
theorem Split_call (w : World) (a b : Value) (A : List (List Nat)) (ps : List Nat) (k m : Nat) (ha : ValRows w a A) (hb : Ints w b (pInts ps)) (hA : ∀ l ∈ A, l.length = m) (hk : k < m) (hps : ∀ p ∈ ps, p < A.length) (hlen : ps.length ≤ 500) :
    Calls Tryz.prog 55 #[a, b, .int .i64 k] w (GroupsPost (gfold A k ps).2 w) := by
  have HA := Lib.hid ha; have HB := Lib.hid hb; have HAL := Lib.hid hA; have HPS := Lib.hid hps
  obtain ⟨ao, ac, rfl, ha1⟩ := ha.1.open
  obtain ⟨bo, bc, rfl, hb1⟩ := hb.1.open
  have ha2 := ha.2
  have hkz : (0:Int) ≤ (k:Int) := by omega
  have hkm : (k:Int) < m := by omega
  have hlp : (pInts ps).length = ps.length := by simp [pInts]
  rw [hlp] at hb1 ⊢
  have HLP := Lib.hid hlp
  clear ha hb hA hps hlp
  obtain ⟨i0, hi, hz0, hz1, hz2⟩ := info_parts info_int
  have Hi := Lib.hid hi; have Hz0 := Lib.hid hz0; have Hz1 := Lib.hid hz1; have Hz2 := Lib.hid hz2
  obtain ⟨j0, ji, jz0, jz1, jz2⟩ := info_parts info_ints
  have Ji := Lib.hid ji; have Jz0 := Lib.hid jz0; have Jz1 := Lib.hid jz1; have Jz2 := Lib.hid jz2
  clear hi hz0 hz1 hz2 ji jz0 jz1 jz2
  go_enter Tryz.func55, Tryz.ntmps55
  go_wp2
  go_loopw [7, 8, 9, 10, 11, 12, 13, 14, 15, 16] (fun o i _ _ _ _ _ _ _ _ wr => ∃ n : Nat, n ≤ ps.length ∧ i = .int .i64 n ∧ Lists wr w.heap.size o (gfold A k (ps.take n)).2 ∧ GInv A (gfold A k (ps.take n)) n ∧ Below w.heap.size w wr) (fun _ i _ _ _ _ _ _ _ _ _ => ps.length - (intOf i).toNat)
  case atStart => exact ⟨0, by omega, rfl, Lists.nil _ _, ⟨by simp [gfold], rfl, by simp [gfold], by simp [gfold], by simp [gfold]⟩, Below.refl _ _⟩
  case round =>
    obtain ⟨n, hn, rfl, ho, hI, hbel⟩ := hrel
    have HO := Lib.hid ho; have HI := Lib.hid hI; have HBL := Lib.hid hbel
    by_cases hlt : n < ps.length
    · obtain ⟨p, hp⟩ : ∃ p, p = ps[n] := ⟨_, rfl⟩
      have hpA : p < A.length := by rw [hp]; exact HPS.out _ (List.getElem_mem _)
      have h1 : (n:Int) < ps.length := by omega
      have h2 : 0 ≤ (n:Int) := by omega
      have h3 : (p:Int) < A.length := by omega
      have h4 : 0 ≤ (p:Int) := by omega
      obtain ⟨b1, o1, rfl, g1, p1⟩ := HB.out.1.at (show n < (pInts ps).length by rw [HLP.out]; exact hlt)
      have hpe : (pInts ps).getD n 0 = (p : Int) := by rw [hp]; simp [pInts, hlt]
      rw [hpe] at p1
      simp only [Nat.mul_one] at p1
      have P1 := Lib.hid p1
      have p1 := (olds hbel _ _ g1).trans p1
      obtain ⟨b2, o2, rfl, g2, ra, rc, q0, q1⟩ := (HA.out.mono hbel).1.at hpA
      have hrl : (A.getD p []).length = m := HAL.out _ (by rw [List.getD_eq_getElem?_getD]; simp [hpA])
      rw [hrl] at q0 q1
      obtain ⟨b3, o3, rfl, g3, c3, d3, r0, r1, r2, r3, r4, r5, r6⟩ := q1.1.at (show k < (A.getD p []).length by rw [hrl]; exact hk)
      have hx : (A.getD p []).getD k 0 ≤ 10 := getD_le q1.2.2 (by rw [hrl]; exact hk)
      simp only [Nat.mul_one] at q0
      obtain ⟨x, hxe⟩ : ∃ x, x = gval A k p := ⟨_, rfl⟩
      rw [show (A.getD p []).getD k 0 = x from hxe.symm] at r0 r1 r2 r4 hx
      have HXE := Lib.hid hxe; have HP := Lib.hid hp
      obtain ⟨S, hS⟩ : ∃ S, S = gfold A k (ps.take n) := ⟨_, rfl⟩
      rw [← hS] at ho hI
      have HSS := Lib.hid hS
      have hlw : GLaw A k (ps.take n) S := by rw [hS]; exact gfold_law _ _ _
      have hsrt := hI.sorted
      have hsl := hI.len
      have hsm := hI.most
      obtain ⟨oa, oc, rfl⟩ := ho.slice
      rw [hsl]
      have HLW := Lib.hid hlw; have HO2 := Lib.hid ho; have HI2 := Lib.hid hI; have HSRT := Lib.hid hsrt
      clear ho hI hbel q1 hxe hpe hp hS hlw hsrt
      go_wp2_with fail
      obtain ⟨V, hV⟩ : ∃ V, V = wr.alloc (.cells #[.int .i64 (kd x), .string (st x), .int .i64 (dn x), .int .i64 0, .int .i64 (nn x), .slice c3 0 d3, .slice none 0 0] 47) := ⟨_, rfl⟩
      have hvb : Below wr.heap.size wr V := by rw [hV]; exact below1 _ _
      have hsv : Sev V wr.heap.size (kd x) (st x) (dn x) (nn x) c3 d3 := by rw [hV]; exact Sev.new _ _ _ _ _ _ _ _
      rw [← hV]
      have HVB := Lib.hid hvb; have HSV := Lib.hid hsv; have HBV := Lib.hid (bthen HBL.out hvb)
      clear hV hvb hsv p1 q0 r0 r1 r2 r3 r4 r5 r6
      go_loopw [10, 11, 12, 13, 14, 15] (fun at_ same i _ _ _ wr => ∃ j : Nat, j ≤ S.1.length ∧ i = .int .i64 j ∧ at_ = .int .i64 (atJ S.1 x j) ∧ same = .int .i64 (sameJ S.1 x j) ∧ Below V.heap.size V wr) (fun _ _ i _ _ _ _ => S.1.length - (intOf i).toNat)
      case atStart => exact ⟨0, by omega, rfl, rfl, by unfold sameJ; rw [if_neg (by omega)], Below.refl _ _⟩
      case round =>
        obtain ⟨j, hj, rfl, rfl, rfl, hbv⟩ := hrel
        have HBVV := Lib.hid hbv
        by_cases hjl : j < S.1.length
        · have s1 : (j:Int) < S.1.length := by omega
          have s0 : 0 ≤ (j:Int) := by omega
          have hbvr := bthen HBV.out hbv
          have hLV := (HO2.out.below HVB.out).below hbv
          have hjS : j < S.2.length := by omega
          obtain ⟨go, cap, os, u, hoe, _, _, _, _, l3, _, hu, hl, hcu⟩ := hLV.open hjS
          simp only [Value.slice.injEq] at hoe
          obtain ⟨rfl, _, rfl⟩ := hoe
          obtain ⟨q, rest, hqe, hqm, hqv⟩ := HLW.out.head hjl
          have hqA : q < A.length := HPS.out _ (List.mem_of_mem_take hqm)
          have hul := l3 _ _ _ hu hl
          rw [hqe] at hul
          obtain ⟨gu, cu, rfl⟩ := own_shape hul (by simp)
          have hcq : wr.cell? ⟨gu, 0, none⟩ = some (.int .i64 q) := by rw [hul.cellAt 0 (by simp)]; rfl
          obtain ⟨ql, hql⟩ : ∃ ql, ql = ((q : Int) :: rest).length := ⟨_, rfl⟩
          have hql0 : 0 < ql := by rw [hql]; simp
          have hql1 : (0 : Int) < ql := by omega
          rw [← hql] at hcu
          obtain ⟨bb, oo, hbo, g5, ra2, rc2, t0, t1⟩ := (HA.out.mono hbvr).1.at hqA
          simp only [Option.some.injEq, Addr.mk.injEq, and_true] at hbo
          obtain ⟨rfl, rfl⟩ := hbo
          have hrl2 : (A.getD q []).length = m := HAL.out _ (by rw [List.getD_eq_getElem?_getD]; simp [hqA])
          rw [hrl2] at t0 t1
          obtain ⟨b6, o6, rfl, g6, c6, d6, y0, y1, y2, y3, y4, y5, y6⟩ := t1.1.at (show k < (A.getD q []).length by rw [hrl2]; exact hk)
          have hy : (A.getD q []).getD k 0 ≤ 10 := getD_le t1.2.2 (by rw [hrl2]; exact hk)
          simp only [Nat.mul_one] at t0
          obtain ⟨y, hye⟩ : ∃ y, y = S.1.getD j 0 := ⟨_, rfl⟩
          rw [show (A.getD q []).getD k 0 = y from (hqv.trans hye.symm)] at y0 y1 y2 y4 hy
          have HYE := Lib.hid hye
          have e3 : (q : Int) < A.length := by omega
          have e4 : 0 ≤ (q : Int) := by omega
          have hsv := HSV.out.mono hbv
          have hat := at_step HSRT.out x hjl
          have hsa := same_step HSRT.out x hjl
          rw [← hye] at hat hsa
          have HSV2 := Lib.hid hsv; have HAT := Lib.hid hat; have HSA := Lib.hid hsa
          obtain ⟨v0, v1, v2, v3, v4, v5, v6, vl⟩ := hsv
          obtain ⟨at0, hat0⟩ : ∃ t, t = atJ S.1 x j := ⟨_, rfl⟩
          obtain ⟨sa0, hsa0⟩ : ∃ t, t = sameJ S.1 x j := ⟨_, rfl⟩
          rw [← hat0, ← hsa0]
          have HAT0 := Lib.hid hat0; have HSA0 := Lib.hid hsa0
          clear hLV l3 hu hl hul hqe hqm hqv t1 hye hbvr hat hsa hat0 hsa0 hrl2
          go_wp2_with fail
          refine (equal06 x y c3 c6 d3 d6 _ hx hy).mono ?_
          rintro e w1 ⟨rfl, hb1⟩
          have s1 := (HSV2.out.mono (below1 wr (.cells #[.int .i64 (kd y), .string (st y), .int .i64 (dn y), .int .i64 0, .int .i64 (nn y), .slice c6 0 d6, .slice none 0 0] 47))).mono hb1
          have s2 := (Sev.new wr (kd y) (st y) (dn y) (nn y) c6 d6 47).mono hb1
          have hbw := bstep HBVV.out hb1
          clear hb1 v0 v1 v2 v3 v4 v5 v6 vl y0 y1 y2 y3 y4 y5 y6 t0 hcq hcu
          obtain ⟨v0, v1, v2, v3, v4, v5, v6, vl⟩ := s1
          obtain ⟨y0, y1, y2, y3, y4, y5, y6, yl⟩ := s2
          go_wp2_with fail
          refine (less06 y x hy hx c6 c3 d6 d3 _).mono ?_
          rintro e w2 ⟨rfl, hb2⟩
          have hbw2 := bthen hbw hb2
          clear hbw hb2 v0 v1 v2 v3 v4 v5 v6 vl y0 y1 y2 y3 y4 y5 y6 yl
          rcases Nat.lt_trichotomy y x with h | h | h
          · have k1 : (x == y) = false := by rw [beq_eq_false_iff_ne]; omega
            have k2 : decide (y < x) = true := by simp [h]
            go_wp2_with fail
            refine ⟨⟨j + 1, by omega, by go_num, ?_, ?_, hbw2⟩, by simp [intOf]; omega⟩
            · rw [HAT.out, if_pos h]; go_num
            · rw [HSA.out, if_neg (by omega), HSA0.out]
          · have k1 : (x == y) = true := by simp [h]
            have k2 : decide (y < x) = false := by simp; omega
            go_wp2_with fail
            refine ⟨⟨j + 1, by omega, by go_num, ?_, ?_, hbw2⟩, by simp [intOf]; omega⟩
            · rw [HAT.out, if_neg (by omega), HAT0.out]
            · rw [HSA.out, if_pos h.symm]
          · have k1 : (x == y) = false := by rw [beq_eq_false_iff_ne]; omega
            have k2 : decide (y < x) = false := by simp; omega
            go_wp2_with fail
            refine ⟨⟨j + 1, by omega, by go_num, ?_, ?_, hbw2⟩, by simp [intOf]; omega⟩
            · rw [HAT.out, if_neg (by omega), HAT0.out]
            · rw [HSA.out, if_neg (by omega), HSA0.out]
        · obtain rfl : j = S.1.length := by omega
          have hLV := (HO2.out.below HVB.out).below hbv
          have hbwr := bthen HBV.out hbv
          have p1 : wr.cell? ⟨b1, o1 + n, none⟩ = some (.int .i64 p) := (olds hbwr _ _ g1).trans P1.out
          have hpl := posOf_le S.1 x
          rw [at_end, same_end HSRT.out]
          obtain ⟨pos, hpos⟩ : ∃ t, t = posOf S.1 x := ⟨_, rfl⟩
          rw [← hpos] at hpl ⊢
          have HPOS := Lib.hid hpos; have HLV := Lib.hid hLV; have HBW := Lib.hid hbwr
          have hsz := hbwr.size
          have g1' : b1 < wr.heap.size := by omega
          have gw := g1
          by_cases hm : x ∈ S.1
          · rw [if_pos hm]
            have hlt2 : pos < S.2.length := by rw [hsl, hpos]; exact (posOf_mem HSRT.out hm).1
            obtain ⟨go, cap, os, u, hoe, hcap, hBgo, l1, l2, l3, l4, hu, hl, hcu⟩ := hLV.open hlt2
            simp only [Value.slice.injEq] at hoe
            obtain ⟨rfl, _, rfl⟩ := hoe
            have hul := l3 _ _ _ hu hl
            have hgo := (l1.lt go rfl).2
            have hlen9 : (S.2.getD pos []).length ≤ 1000 := by
              have := (HI2.out.inner (S.2.getD pos []) (by rw [List.getD_eq_getElem?_getD]; simp [hlt2])).1
              omega
            obtain ⟨L, hL⟩ : ∃ L, L = S.2.getD pos [] := ⟨_, rfl⟩
            rw [← hL] at hul hlen9 hl
            obtain ⟨ua, uc, rfl⟩ := own_slice hul
            have q0 : (0 : Int) ≤ pos := by omega
            have q1 : (pos : Int) < S.1.length := by omega
            have q2 : (pos : Int) ≥ 0 := by omega
            have HM := Lib.hid hm; have HLL := Lib.hid hL
            have L1 := Lib.hid l1; have L2 := Lib.hid l2; have L3 := Lib.hid l3; have L4 := Lib.hid l4; have HU := Lib.hid hu; have HL := Lib.hid hl; have HUL := Lib.hid hul
            clear hLV l1 l2 l3 l4 hu hl hul hm hL hpos hbv hbwr
            go_wp2_with fail
            refine wp_region_held_drew (S := (fun w' => ∀ b o, b < w.heap.size → w'.cell? ⟨b, o, none⟩ = wr.cell? ⟨b, o, none⟩)) (by kernel_rfl) ?_ (fun hHeld => ?_)
            · (first | (refine fun b o hb => olds (Below.mono (B := wr.heap.size) ?_ hsz) b o hb; (repeat (first | with_reducible exact Below.refl _ _ | with_reducible assumption | with_reducible refine Below.drew ?_ | with_reducible refine Below.alloc ?_ (by first | omega | (simp; done) | (simp; omega)) _ | with_reducible refine Below.setCell ?_ (by first | omega | (simp; done) | (simp; omega)) _)); done) | (refine olds ?_; (repeat (first | with_reducible exact Below.refl _ _ | with_reducible assumption | with_reducible refine Below.drew ?_ | with_reducible refine Below.alloc ?_ (by first | omega | (simp; done) | (simp; omega)) _ | with_reducible refine Below.setCell ?_ (by first | omega | (simp; done) | (simp; omega)) _)); done) | (refine olds (Below.setCell hb9 hBgo _)))
            refine wpAnyH_take (i := 0) (v := ?_) rfl (by kernel_rfl) (by kernel_rfl) (by kernel_rfl) (fun _ _ _ h => h) (Or.inl ⟨by rfl, ?_⟩) (by assumption) ?_
            rotate_left
            · intro w hSw; (try dsimp only [List.getElem_toArray, List.getElem_cons_succ, List.getElem_cons_zero] at hSw ⊢); go_simp; (try with_reducible rfl)
            (try dsimp only [List.getElem_toArray, List.getElem_cons_succ, List.getElem_cons_zero]); (try simp only [Act.put, List.setIfInBounds_toArray, List.set_cons_zero, List.set_cons_succ])
            refine wpAnyH_take (i := 1) (v := ?_) rfl (by kernel_rfl) (by kernel_rfl) (by kernel_rfl) (fun _ _ _ h => h) (Or.inl ⟨by rfl, ?_⟩) (by assumption) ?_
            rotate_left
            · intro w hSw; (try dsimp only [List.getElem_toArray, List.getElem_cons_succ, List.getElem_cons_zero] at hSw ⊢); go_simp; (try with_reducible rfl)
            (try dsimp only [List.getElem_toArray, List.getElem_cons_succ, List.getElem_cons_zero]); (try simp only [Act.put, List.setIfInBounds_toArray, List.set_cons_zero, List.set_cons_succ])
            refine wpAnyH_take (i := 2) (v := ?_) rfl (by kernel_rfl) (by kernel_rfl) (by kernel_rfl) (fun _ _ _ h => h) (Or.inl ⟨by rfl, ?_⟩) (by assumption) ?_
            rotate_left
            · intro w hSw; (try dsimp only [List.getElem_toArray, List.getElem_cons_succ, List.getElem_cons_zero] at hSw ⊢); go_simp; (try with_reducible rfl)
            (try dsimp only [List.getElem_toArray, List.getElem_cons_succ, List.getElem_cons_zero]); (try simp only [Act.put, List.setIfInBounds_toArray, List.set_cons_zero, List.set_cons_succ])
            refine wpAnyH_take (i := 3) (v := ?_) rfl (by kernel_rfl) (by kernel_rfl) (by kernel_rfl) (fun _ _ _ h => h) (Or.inl ⟨by rfl, ?_⟩) (by assumption) ?_
            rotate_left
            · intro w hSw; (try dsimp only [List.getElem_toArray, List.getElem_cons_succ, List.getElem_cons_zero] at hSw ⊢); go_simp; (try with_reducible rfl)
            (try dsimp only [List.getElem_toArray, List.getElem_cons_succ, List.getElem_cons_zero]); (try simp only [Act.put, List.setIfInBounds_toArray, List.set_cons_zero, List.set_cons_succ])
            refine wpAnyH_take (i := 4) (v := ?_) rfl (by kernel_rfl) (by kernel_rfl) (by kernel_rfl) (fun _ _ _ h => h) (Or.inl ⟨by rfl, ?_⟩) (by assumption) ?_
            rotate_left
            · intro w hSw; (try dsimp only [List.getElem_toArray, List.getElem_cons_succ, List.getElem_cons_zero] at hSw ⊢); go_simp; (try with_reducible rfl)
            (try dsimp only [List.getElem_toArray, List.getElem_cons_succ, List.getElem_cons_zero]); (try simp only [Act.put, List.setIfInBounds_toArray, List.set_cons_zero, List.set_cons_succ])
            refine wpAnyH_take (i := 6) (v := ?_) rfl (by kernel_rfl) (by kernel_rfl) (by kernel_rfl) (fun _ _ _ h => h) (Or.inl ⟨by rfl, ?_⟩) (by assumption) ?_
            rotate_left
            · intro w hSw; (try dsimp only [List.getElem_toArray, List.getElem_cons_succ, List.getElem_cons_zero] at hSw ⊢); go_simp; (try with_reducible rfl)
            (try dsimp only [List.getElem_toArray, List.getElem_cons_succ, List.getElem_cons_zero]); (try simp only [Act.put, List.setIfInBounds_toArray, List.set_cons_zero, List.set_cons_succ])
            refine wpAnyH_take (i := 7) (v := ?_) rfl (by kernel_rfl) (by kernel_rfl) (by kernel_rfl) (fun _ _ _ h => h) (Or.inl ⟨by rfl, ?_⟩) (by assumption) ?_
            rotate_left
            · intro w hSw; (try dsimp only [List.getElem_toArray, List.getElem_cons_succ, List.getElem_cons_zero] at hSw ⊢); go_simp; (try with_reducible rfl)
            (try dsimp only [List.getElem_toArray, List.getElem_cons_succ, List.getElem_cons_zero]); (try simp only [Act.put, List.setIfInBounds_toArray, List.set_cons_zero, List.set_cons_succ])
            refine wpAnyH_take (i := 8) (v := ?_) rfl (by kernel_rfl) (by kernel_rfl) (by kernel_rfl) (fun _ _ _ h => h) (Or.inl ⟨by rfl, ?_⟩) (by assumption) ?_
            rotate_left
            · intro w hSw; (try dsimp only [List.getElem_toArray, List.getElem_cons_succ, List.getElem_cons_zero] at hSw ⊢); go_simp; (try with_reducible rfl)
            (try dsimp only [List.getElem_toArray, List.getElem_cons_succ, List.getElem_cons_zero]); (try simp only [Act.put, List.setIfInBounds_toArray, List.set_cons_zero, List.set_cons_succ])
            refine wpAnyH_take (i := 9) (v := ?_) rfl (by kernel_rfl) (by kernel_rfl) (by kernel_rfl) (fun _ _ _ h => h) (Or.inl ⟨by rfl, ?_⟩) (by assumption) ?_
            rotate_left
            · intro w hSw; (try dsimp only [List.getElem_toArray, List.getElem_cons_succ, List.getElem_cons_zero] at hSw ⊢); go_simp; (try with_reducible rfl)
            (try dsimp only [List.getElem_toArray, List.getElem_cons_succ, List.getElem_cons_zero]); (try simp only [Act.put, List.setIfInBounds_toArray, List.set_cons_zero, List.set_cons_succ])
            refine wpAnyH_ready (rs := [5, 10]) (by kernel_rfl) (by simp) ?_
            refine AllReadyH.cons rfl (fun K hK => ?_) ?_
            · go_simp
              clear hHeld
              refine hK.out _ _ ?_ (fun hHeld => ?_)
              · (first | (refine fun b o hb => olds (Below.mono (B := wr.heap.size) ?_ hsz) b o hb; (repeat (first | with_reducible exact Below.refl _ _ | with_reducible assumption | with_reducible refine Below.drew ?_ | with_reducible refine Below.alloc ?_ (by first | omega | (simp; done) | (simp; omega)) _ | with_reducible refine Below.setCell ?_ (by first | omega | (simp; done) | (simp; omega)) _)); done) | (refine olds ?_; (repeat (first | with_reducible exact Below.refl _ _ | with_reducible assumption | with_reducible refine Below.drew ?_ | with_reducible refine Below.alloc ?_ (by first | omega | (simp; done) | (simp; omega)) _ | with_reducible refine Below.setCell ?_ (by first | omega | (simp; done) | (simp; omega)) _)); done) | (refine olds (Below.setCell hb9 hBgo _)))
              clear hK K
              refine wpAnyH_ready (rs := [10]) (by kernel_rfl) (by simp) ?_
              refine AllReadyH.cons rfl (fun K hK => ?_) ?_
              · go_simp
                clear hHeld
                refine hK.out _ _ ?_ (fun hHeld => ?_)
                · (first | (refine fun b o hb => olds (Below.mono (B := wr.heap.size) ?_ hsz) b o hb; (repeat (first | with_reducible exact Below.refl _ _ | with_reducible assumption | with_reducible refine Below.drew ?_ | with_reducible refine Below.alloc ?_ (by first | omega | (simp; done) | (simp; omega)) _ | with_reducible refine Below.setCell ?_ (by first | omega | (simp; done) | (simp; omega)) _)); done) | (refine olds ?_; (repeat (first | with_reducible exact Below.refl _ _ | with_reducible assumption | with_reducible refine Below.drew ?_ | with_reducible refine Below.alloc ?_ (by first | omega | (simp; done) | (simp; omega)) _ | with_reducible refine Below.setCell ?_ (by first | omega | (simp; done) | (simp; omega)) _)); done) | (refine olds (Below.setCell hb9 hBgo _)))
                clear hK K
                refine wpAnyH_ready (rs := [11]) (by kernel_rfl) (by simp) ?_
                refine AllReadyH.cons rfl (fun K hK => ?_) ?_
                · refine step_append_lies _ (by rfl) _ _ _ (by rfl) w.heap.size 3 i0 _ 1 8 und_ints Hi.out Hz0.out Hz1.out Hz2.out rfl (by decide) _ L.length (ci L) (by rfl) (own_below HUL.out (by repeat (first | with_reducible exact Below.refl _ _ | with_reducible assumption | with_reducible refine Below.drew ?_ | with_reducible refine Below.alloc ?_ (by first | omega | (simp; done) | (simp; omega)) _ | with_reducible refine Below.setCell ?_ (by first | omega | (simp; done) | (simp; omega)) _))) ⟨wr.heap.size, 0, none⟩ 1 1 [.int .i64 p] (by rfl) rfl (One.cells (heap_alloc_new _ _)) (by intro u hu; simp at hu; subst hu; rfl) (by decide) (by unfold maxLen; omega) (by omega) (by simp; omega) _ rfl ?_; intro g9 cap9 w9 hown9 hgr9 hat9 hgl9; have hb9 : Below w.heap.size wr w9 := Below.grown (Below.mono (by repeat (first | with_reducible exact Below.refl _ _ | with_reducible assumption | with_reducible refine Below.drew ?_ | with_reducible refine Below.alloc ?_ (by first | omega | (simp; done) | (simp; omega)) _ | with_reducible refine Below.setCell ?_ (by first | omega | (simp; done) | (simp; omega)) _)) hsz) hgr9 (by simp; omega) (fun g hg => (HUL.out.lt g hg).1); obtain ⟨y1, y2⟩ := after_app (own_below L1.out (by repeat (first | with_reducible exact Below.refl _ _ | with_reducible assumption | with_reducible refine Below.drew ?_ | with_reducible refine Below.alloc ?_ (by first | omega | (simp; done) | (simp; omega)) _ | with_reducible refine Below.setCell ?_ (by first | omega | (simp; done) | (simp; omega)) _))) (own_below HUL.out (by repeat (first | with_reducible exact Below.refl _ _ | with_reducible assumption | with_reducible refine Below.drew ?_ | with_reducible refine Below.alloc ?_ (by first | omega | (simp; done) | (simp; omega)) _ | with_reducible refine Below.setCell ?_ (by first | omega | (simp; done) | (simp; omega)) _))) hgr9 HU.out; have hgo9 : go < w9.heap.size := Nat.lt_of_lt_of_le hgo hb9.size
                  clear hHeld
                  refine hK.out _ _ ?_ (fun hHeld => ?_)
                  · (first | (refine fun b o hb => olds (Below.mono (B := wr.heap.size) ?_ hsz) b o hb; (repeat (first | with_reducible exact Below.refl _ _ | with_reducible assumption | with_reducible refine Below.drew ?_ | with_reducible refine Below.alloc ?_ (by first | omega | (simp; done) | (simp; omega)) _ | with_reducible refine Below.setCell ?_ (by first | omega | (simp; done) | (simp; omega)) _)); done) | (refine olds ?_; (repeat (first | with_reducible exact Below.refl _ _ | with_reducible assumption | with_reducible refine Below.drew ?_ | with_reducible refine Below.alloc ?_ (by first | omega | (simp; done) | (simp; omega)) _ | with_reducible refine Below.setCell ?_ (by first | omega | (simp; done) | (simp; omega)) _)); done) | (refine olds (Below.setCell hb9 hBgo _)))
                  clear hK K
                  refine wpAnyH_take (i := 12) (v := ?_) rfl (by kernel_rfl) (by kernel_rfl) (by kernel_rfl) (fun _ _ _ h => h) (Or.inl ⟨by rfl, ?_⟩) (by assumption) ?_
                  rotate_left
                  · intro w hSw; (try dsimp only [List.getElem_toArray, List.getElem_cons_succ, List.getElem_cons_zero] at hSw ⊢); go_simp; (try with_reducible rfl)
                  (try dsimp only [List.getElem_toArray, List.getElem_cons_succ, List.getElem_cons_zero]); (try simp only [Act.put, List.setIfInBounds_toArray, List.set_cons_zero, List.set_cons_succ])
                  refine wpAnyH_ready (rs := [13]) (by kernel_rfl) (by simp) ?_
                  refine AllReadyH.cons rfl (fun K hK => ?_) ?_
                  · go_simp
                    clear hHeld
                    refine hK.out _ _ ?_ (fun hHeld => ?_)
                    · (first | (refine fun b o hb => olds (Below.mono (B := wr.heap.size) ?_ hsz) b o hb; (repeat (first | with_reducible exact Below.refl _ _ | with_reducible assumption | with_reducible refine Below.drew ?_ | with_reducible refine Below.alloc ?_ (by first | omega | (simp; done) | (simp; omega)) _ | with_reducible refine Below.setCell ?_ (by first | omega | (simp; done) | (simp; omega)) _)); done) | (refine olds ?_; (repeat (first | with_reducible exact Below.refl _ _ | with_reducible assumption | with_reducible refine Below.drew ?_ | with_reducible refine Below.alloc ?_ (by first | omega | (simp; done) | (simp; omega)) _ | with_reducible refine Below.setCell ?_ (by first | omega | (simp; done) | (simp; omega)) _)); done) | (refine olds (Below.setCell hb9 hBgo _)))
                    clear hK K
                    refine wpAnyH_done (by kernel_rfl) ?_ _
                    have hAp := Lists.append (x := (p : Int)) (v' := .slice (some ⟨g9, 0, none⟩) (L.length + 1) cap9) (own_below L1.out (by repeat (first | with_reducible exact Below.refl _ _ | with_reducible assumption | with_reducible refine Below.drew ?_ | with_reducible refine Below.alloc ?_ (by first | omega | (simp; done) | (simp; omega)) _ | with_reducible refine Below.setCell ?_ (by first | omega | (simp; done) | (simp; omega)) _))) L2.out (fun k u l hu hl => own_below (L3.out k u l hu hl) (by repeat (first | with_reducible exact Below.refl _ _ | with_reducible assumption | with_reducible refine Below.drew ?_ | with_reducible refine Below.alloc ?_ (by first | omega | (simp; done) | (simp; omega)) _ | with_reducible refine Below.setCell ?_ (by first | omega | (simp; done) | (simp; omega)) _))) L4.out HU.out HL.out (by simpa [ci] using hown9) hgr9 (hat9.elim (fun h => .inl h.symm) (fun h => .inr fun g hg => by cases hg; exact Nat.le_of_eq h.symm))
                    have hBN : Below w.heap.size w (w9.setCell ⟨go, pos, none⟩ (.slice (some ⟨g9, 0, none⟩) (L.length + 1) cap9)) := (HBW.out.trans hb9).setCell hBgo _
                    have HAp := Lib.hid hAp; have HBN := Lib.hid hBN
                    clear hAp hBN hown9 hgr9 hat9 y1 y2 hb9
                    go_wp2
                    have hst : gfold A k (ps.take (n + 1)) = (S.1, S.2.set pos (L ++ [(p : Int)])) := by
                      rw [List.take_succ_eq_append_getElem hlt, gfold_snoc, ← HP.out, ← HSS.out]; unfold gstep
                      rw [← HXE.out, if_pos HM.out, ← HPOS.out, ← HLL.out]
                    have hI2 : GInv A (gfold A k (ps.take (n + 1))) (n + 1) := by
                      rw [List.take_succ_eq_append_getElem hlt, gfold_snoc, ← HP.out, ← HSS.out]; exact HI2.out.step hpA (by rw [← HXE.out]; exact hx)
                    refine ⟨⟨n + 1, by omega, by go_num, ?_, hI2, HBN.out⟩, by simp [intOf]; omega⟩
                    have hAf := HAp.out
                    rw [hsl] at hAf
                    rw [hst]; exact hAf
                  exact AllReadyH.nil
                exact AllReadyH.nil
              exact AllReadyH.nil
            refine AllReadyH.cons rfl (fun K hK => ?_) ?_
            · go_simp
              clear hHeld
              refine hK.out _ _ ?_ (fun hHeld => ?_)
              · (first | (refine fun b o hb => olds (Below.mono (B := wr.heap.size) ?_ hsz) b o hb; (repeat (first | with_reducible exact Below.refl _ _ | with_reducible assumption | with_reducible refine Below.drew ?_ | with_reducible refine Below.alloc ?_ (by first | omega | (simp; done) | (simp; omega)) _ | with_reducible refine Below.setCell ?_ (by first | omega | (simp; done) | (simp; omega)) _)); done) | (refine olds ?_; (repeat (first | with_reducible exact Below.refl _ _ | with_reducible assumption | with_reducible refine Below.drew ?_ | with_reducible refine Below.alloc ?_ (by first | omega | (simp; done) | (simp; omega)) _ | with_reducible refine Below.setCell ?_ (by first | omega | (simp; done) | (simp; omega)) _)); done) | (refine olds (Below.setCell hb9 hBgo _)))
              clear hK K
              refine wpAnyH_ready (rs := [5]) (by kernel_rfl) (by simp) ?_
              refine AllReadyH.cons rfl (fun K hK => ?_) ?_
              · go_simp
                clear hHeld
                refine hK.out _ _ ?_ (fun hHeld => ?_)
                · (first | (refine fun b o hb => olds (Below.mono (B := wr.heap.size) ?_ hsz) b o hb; (repeat (first | with_reducible exact Below.refl _ _ | with_reducible assumption | with_reducible refine Below.drew ?_ | with_reducible refine Below.alloc ?_ (by first | omega | (simp; done) | (simp; omega)) _ | with_reducible refine Below.setCell ?_ (by first | omega | (simp; done) | (simp; omega)) _)); done) | (refine olds ?_; (repeat (first | with_reducible exact Below.refl _ _ | with_reducible assumption | with_reducible refine Below.drew ?_ | with_reducible refine Below.alloc ?_ (by first | omega | (simp; done) | (simp; omega)) _ | with_reducible refine Below.setCell ?_ (by first | omega | (simp; done) | (simp; omega)) _)); done) | (refine olds (Below.setCell hb9 hBgo _)))
                clear hK K
                refine wpAnyH_ready (rs := [11]) (by kernel_rfl) (by simp) ?_
                refine AllReadyH.cons rfl (fun K hK => ?_) ?_
                · refine step_append_lies _ (by rfl) _ _ _ (by rfl) w.heap.size 3 i0 _ 1 8 und_ints Hi.out Hz0.out Hz1.out Hz2.out rfl (by decide) _ L.length (ci L) (by rfl) (own_below HUL.out (by repeat (first | with_reducible exact Below.refl _ _ | with_reducible assumption | with_reducible refine Below.drew ?_ | with_reducible refine Below.alloc ?_ (by first | omega | (simp; done) | (simp; omega)) _ | with_reducible refine Below.setCell ?_ (by first | omega | (simp; done) | (simp; omega)) _))) ⟨wr.heap.size, 0, none⟩ 1 1 [.int .i64 p] (by rfl) rfl (One.cells (heap_alloc_new _ _)) (by intro u hu; simp at hu; subst hu; rfl) (by decide) (by unfold maxLen; omega) (by omega) (by simp; omega) _ rfl ?_; intro g9 cap9 w9 hown9 hgr9 hat9 hgl9; have hb9 : Below w.heap.size wr w9 := Below.grown (Below.mono (by repeat (first | with_reducible exact Below.refl _ _ | with_reducible assumption | with_reducible refine Below.drew ?_ | with_reducible refine Below.alloc ?_ (by first | omega | (simp; done) | (simp; omega)) _ | with_reducible refine Below.setCell ?_ (by first | omega | (simp; done) | (simp; omega)) _)) hsz) hgr9 (by simp; omega) (fun g hg => (HUL.out.lt g hg).1); obtain ⟨y1, y2⟩ := after_app (own_below L1.out (by repeat (first | with_reducible exact Below.refl _ _ | with_reducible assumption | with_reducible refine Below.drew ?_ | with_reducible refine Below.alloc ?_ (by first | omega | (simp; done) | (simp; omega)) _ | with_reducible refine Below.setCell ?_ (by first | omega | (simp; done) | (simp; omega)) _))) (own_below HUL.out (by repeat (first | with_reducible exact Below.refl _ _ | with_reducible assumption | with_reducible refine Below.drew ?_ | with_reducible refine Below.alloc ?_ (by first | omega | (simp; done) | (simp; omega)) _ | with_reducible refine Below.setCell ?_ (by first | omega | (simp; done) | (simp; omega)) _))) hgr9 HU.out; have hgo9 : go < w9.heap.size := Nat.lt_of_lt_of_le hgo hb9.size
                  clear hHeld
                  refine hK.out _ _ ?_ (fun hHeld => ?_)
                  · (first | (refine fun b o hb => olds (Below.mono (B := wr.heap.size) ?_ hsz) b o hb; (repeat (first | with_reducible exact Below.refl _ _ | with_reducible assumption | with_reducible refine Below.drew ?_ | with_reducible refine Below.alloc ?_ (by first | omega | (simp; done) | (simp; omega)) _ | with_reducible refine Below.setCell ?_ (by first | omega | (simp; done) | (simp; omega)) _)); done) | (refine olds ?_; (repeat (first | with_reducible exact Below.refl _ _ | with_reducible assumption | with_reducible refine Below.drew ?_ | with_reducible refine Below.alloc ?_ (by first | omega | (simp; done) | (simp; omega)) _ | with_reducible refine Below.setCell ?_ (by first | omega | (simp; done) | (simp; omega)) _)); done) | (refine olds (Below.setCell hb9 hBgo _)))
                  clear hK K
                  refine wpAnyH_take (i := 12) (v := ?_) rfl (by kernel_rfl) (by kernel_rfl) (by kernel_rfl) (fun _ _ _ h => h) (Or.inl ⟨by rfl, ?_⟩) (by assumption) ?_
                  rotate_left
                  · intro w hSw; (try dsimp only [List.getElem_toArray, List.getElem_cons_succ, List.getElem_cons_zero] at hSw ⊢); go_simp; (try with_reducible rfl)
                  (try dsimp only [List.getElem_toArray, List.getElem_cons_succ, List.getElem_cons_zero]); (try simp only [Act.put, List.setIfInBounds_toArray, List.set_cons_zero, List.set_cons_succ])
                  refine wpAnyH_ready (rs := [13]) (by kernel_rfl) (by simp) ?_
                  refine AllReadyH.cons rfl (fun K hK => ?_) ?_
                  · go_simp
                    clear hHeld
                    refine hK.out _ _ ?_ (fun hHeld => ?_)
                    · (first | (refine fun b o hb => olds (Below.mono (B := wr.heap.size) ?_ hsz) b o hb; (repeat (first | with_reducible exact Below.refl _ _ | with_reducible assumption | with_reducible refine Below.drew ?_ | with_reducible refine Below.alloc ?_ (by first | omega | (simp; done) | (simp; omega)) _ | with_reducible refine Below.setCell ?_ (by first | omega | (simp; done) | (simp; omega)) _)); done) | (refine olds ?_; (repeat (first | with_reducible exact Below.refl _ _ | with_reducible assumption | with_reducible refine Below.drew ?_ | with_reducible refine Below.alloc ?_ (by first | omega | (simp; done) | (simp; omega)) _ | with_reducible refine Below.setCell ?_ (by first | omega | (simp; done) | (simp; omega)) _)); done) | (refine olds (Below.setCell hb9 hBgo _)))
                    clear hK K
                    refine wpAnyH_done (by kernel_rfl) ?_ _
                    have hAp := Lists.append (x := (p : Int)) (v' := .slice (some ⟨g9, 0, none⟩) (L.length + 1) cap9) (own_below L1.out (by repeat (first | with_reducible exact Below.refl _ _ | with_reducible assumption | with_reducible refine Below.drew ?_ | with_reducible refine Below.alloc ?_ (by first | omega | (simp; done) | (simp; omega)) _ | with_reducible refine Below.setCell ?_ (by first | omega | (simp; done) | (simp; omega)) _))) L2.out (fun k u l hu hl => own_below (L3.out k u l hu hl) (by repeat (first | with_reducible exact Below.refl _ _ | with_reducible assumption | with_reducible refine Below.drew ?_ | with_reducible refine Below.alloc ?_ (by first | omega | (simp; done) | (simp; omega)) _ | with_reducible refine Below.setCell ?_ (by first | omega | (simp; done) | (simp; omega)) _))) L4.out HU.out HL.out (by simpa [ci] using hown9) hgr9 (hat9.elim (fun h => .inl h.symm) (fun h => .inr fun g hg => by cases hg; exact Nat.le_of_eq h.symm))
                    have hBN : Below w.heap.size w (w9.setCell ⟨go, pos, none⟩ (.slice (some ⟨g9, 0, none⟩) (L.length + 1) cap9)) := (HBW.out.trans hb9).setCell hBgo _
                    have HAp := Lib.hid hAp; have HBN := Lib.hid hBN
                    clear hAp hBN hown9 hgr9 hat9 y1 y2 hb9
                    go_wp2
                    have hst : gfold A k (ps.take (n + 1)) = (S.1, S.2.set pos (L ++ [(p : Int)])) := by
                      rw [List.take_succ_eq_append_getElem hlt, gfold_snoc, ← HP.out, ← HSS.out]; unfold gstep
                      rw [← HXE.out, if_pos HM.out, ← HPOS.out, ← HLL.out]
                    have hI2 : GInv A (gfold A k (ps.take (n + 1))) (n + 1) := by
                      rw [List.take_succ_eq_append_getElem hlt, gfold_snoc, ← HP.out, ← HSS.out]; exact HI2.out.step hpA (by rw [← HXE.out]; exact hx)
                    refine ⟨⟨n + 1, by omega, by go_num, ?_, hI2, HBN.out⟩, by simp [intOf]; omega⟩
                    have hAf := HAp.out
                    rw [hsl] at hAf
                    rw [hst]; exact hAf
                  exact AllReadyH.nil
                exact AllReadyH.nil
              exact AllReadyH.nil
            exact AllReadyH.nil
          · rw [if_neg hm]
            have hn1 : ¬ ((-1 : Int) ≥ 0) := by omega
            obtain ⟨os, l1, l2, l3, l4⟩ := hLV
            have hstep : gfold A k (ps.take (n + 1)) = (insAt S.1 pos x, insAt S.2 pos [(p : Int)]) := by
              rw [List.take_succ_eq_append_getElem hlt, gfold_snoc, ← HP.out, ← HSS.out]; unfold gstep
              rw [← HXE.out, if_neg hm, ← HPOS.out]
            have hI2 : GInv A (gfold A k (ps.take (n + 1))) (n + 1) := by
              rw [List.take_succ_eq_append_getElem hlt, gfold_snoc, ← HP.out, ← HSS.out]; exact HI2.out.step hpA (by rw [← HXE.out]; exact hx)
            have HST := Lib.hid hstep; have HI3 := Lib.hid hI2
            have hpl2 : pos ≤ S.2.length := by omega
            have hos1 : ∀ q ∈ os, q.oneCell' = true := by
              intro q hq
              obtain ⟨t, ht, rfl⟩ := List.getElem_of_mem hq
              have := l3 t (os[t]) (S.2[t]'(by omega)) (by simp) (by simp)
              rcases own_cases this with ⟨h, _⟩ | ⟨_, _, h, _⟩ <;> rw [h] <;> rfl
            have L1 := Lib.hid l1; have L2 := Lib.hid l2; have L3 := Lib.hid l3; have L4 := Lib.hid l4; have HOS := Lib.hid hos1
            rcases own_cases l1 with ⟨he, h0⟩ | ⟨go, cap, he, hBgo, hgo, hcap, hcell⟩
            · simp only [Value.slice.injEq] at he
              obtain ⟨rfl, _, rfl⟩ := he
              have e0 : S.1.length = 0 := by omega
              obtain rfl : pos = 0 := by omega
              rw [e0]
              clear l1 l2 l3 l4 hos1 hstep hI2 hm hpos hbv hbwr
              go_wp2_with fail
              go_region_held3 (fun w' => ∀ b o, b < w.heap.size → w'.cell? ⟨b, o, none⟩ = wr.cell? ⟨b, o, none⟩) (first | (refine fun b o hb => olds (Below.mono (B := wr.heap.size) ?_ hsz) b o hb; (repeat (first | with_reducible exact Below.refl _ _ | with_reducible assumption | with_reducible refine Below.drew ?_ | with_reducible refine Below.alloc ?_ (by first | omega | (simp; done) | (simp; omega)) _ | with_reducible refine Below.setCell ?_ (by first | omega | (simp; done) | (simp; omega)) _)); done) | (refine olds ?_; (repeat (first | with_reducible exact Below.refl _ _ | with_reducible assumption | with_reducible refine Below.drew ?_ | with_reducible refine Below.alloc ?_ (by first | omega | (simp; done) | (simp; omega)) _ | with_reducible refine Below.setCell ?_ (by first | omega | (simp; done) | (simp; omega)) _)); done) | exact olds hb9)
                (first | (refine step_app2 (by rfl) _ _ _ (by rfl) w.heap.size 26 j0 _ 1 24 und_rows Ji.out Jz0.out Jz1.out Jz2.out rfl (by decide) _ 1 [.slice (some ⟨wr.heap.size, 0, none⟩) 1 1] (by rfl) (own_newH _ w.heap.size 26 1 1 [.slice (some ⟨wr.heap.size, 0, none⟩) 1 1] (wr.heap.size + 1) (by simp) (by omega) rfl (by decide)) none 0 0 [] (by rfl) rfl (fun _ => rfl) (by intro ad had; cases had) (by intro u hu; cases hu) (by unfold maxLen; omega) (by omega) (by simp; omega) ?_; intro v9 w9 hown9 hgr9 hat9; have hb9 : Below w.heap.size wr w9 := Below.grown (Below.mono (by repeat (first | with_reducible exact Below.refl _ _ | with_reducible assumption | with_reducible refine Below.drew ?_ | with_reducible refine Below.alloc ?_ (by first | omega | (simp; done) | (simp; omega)) _ | with_reducible refine Below.setCell ?_ (by first | omega | (simp; done) | (simp; omega)) _)) hsz) hgr9 (by simp; omega) (fun g hg => by cases hg; simp; omega)))
              have HOWN := Lib.hid hown9; have HGR := Lib.hid hgr9; have HB9 := Lib.hid hb9
              obtain ⟨g9, c9, rfl⟩ := own_shape hown9 (by omega)
              have hg9 := (hown9.lt g9 rfl).2
              clear hown9 hgr9 hat9
              go_wp2_with (first
                | (at_builtin; (refine wpList_app2 rfl (.tmp 87) (.tmp 90) 22 rfl w.heap.size 26 j0 _ 1 24 und_rows Ji.out Jz0.out Jz1.out Jz2.out rfl (by decide) _ 0 [] rfl (own_newH w9 w.heap.size 26 1 0 [] w9.heap.size rfl (Nat.le_trans hsz HB9.out.size) rfl (by decide)) none 0 0 [] rfl rfl (fun _ => rfl) (by intro ad had; cases had) (by intro u hu; cases hu) (by unfold maxLen; omega) (by omega) (by have := HB9.out.size; simp; omega) ?_; intro v10 w10 hown10 hgr10 hat10; have hg910 : w10.ownsRow w.heap.size 26 1 (.slice (some ⟨g9, 0, none⟩) (1 + 0) c9) _ _ := (HOWN.out.alloc _).kept hgr10 (.inr (by intro e; have e2 : g9 = w9.heap.size := Option.some.inj e; omega))))
                | (at_builtin; (refine wpList_app2 rfl (.tmp 91) (.tmp 92) 22 rfl w.heap.size 26 j0 _ 1 24 und_rows Ji.out Jz0.out Jz1.out Jz2.out rfl (by decide) _ _ _ rfl hown10 (some ⟨g9, 0, none⟩) (1 + 0) c9 ([.slice (some ⟨wr.heap.size, 0, none⟩) 1 1] ++ []) rfl rfl (by intro h; cases h) (by intro ad had t u hu; cases had; exact hg910.cells rfl t u hu) (by intro u hu; simp at hu; subst hu; rfl) (by unfold maxLen; omega) (by omega) (by have := hgr10.size; simp at this; have := HB9.out.size; omega) ?_; intro v11 w11 hown11 hgr11 hat11)))
              have hs9 := HB9.out.size
              have hs10 := hgr10.size
              simp at hs10
              have hbf : Below w.heap.size w w11 := (((HBW.out.trans HB9.out).alloc (Nat.le_trans hsz hs9) (.cells #[] 26)).grown hgr10 (by simp; omega) (fun g hg => by have e2 : w9.heap.size = g := Option.some.inj hg; omega)).grown hgr11 (by omega) (fun g hg => (hown10.lt g hg).1)
              have hLf := Lists.ins3 (wr := wr) (U := (wr.drew.alloc (.cells #[.int .i64 p] 3)).alloc (.cells #[.slice (some ⟨wr.heap.size, 0, none⟩) 1 1] 26)) (B := w.heap.size) (l := [(p : Int)]) (i := 0) (u0 := .slice (some ⟨wr.heap.size, 0, none⟩) 1 1) L2.out L3.out L4.out hpl2 (by repeat (first | with_reducible exact Below.refl _ _ | with_reducible assumption | with_reducible refine Below.drew ?_ | with_reducible refine Below.alloc ?_ (by first | omega | (simp; done) | (simp; omega)) _ | with_reducible refine Below.setCell ?_ (by first | omega | (simp; done) | (simp; omega)) _))
                ((own_newH wr.drew w.heap.size 3 1 1 [.int .i64 p] wr.heap.size rfl hsz rfl (by decide)).alloc _) (fun g hg => by cases hg; exact Nat.le_refl _)
                (own_newH (wr.drew.alloc (.cells #[.int .i64 p] 3)) w.heap.size 26 1 1 [.slice (some ⟨wr.heap.size, 0, none⟩) 1 1] (wr.heap.size + 1) (by simp) (by omega) rfl (by decide)) HGR.out
                (own_newH w9 w.heap.size 26 1 0 [] w9.heap.size rfl (Nat.le_trans hsz hs9) rfl (by decide)) hgr10 hown10 hgr11 (s' := v11) (by have h := hown11; have ho0 : os = [] := List.eq_nil_of_length_eq_zero (by rw [L2.out]; omega); rw [show 0 + 0 + (1 + 0) = S.2.length + 1 by omega] at h; rw [ho0]; exact h)
              refine ⟨⟨n + 1, by omega, by go_num, ?_, HI3.out, hbf⟩, by simp [intOf]; omega⟩
              rw [HST.out]; exact hLf
            · simp only [Value.slice.injEq] at he
              obtain ⟨rfl, _, rfl⟩ := he
              have q0 : (0 : Int) ≤ pos := by omega
              have q1 : (pos : Int) ≤ S.1.length := by omega
              have q2 : (pos : Int) ≤ oc := by omega
              have q3 : (S.1.length : Int) ≤ oc := by omega
              have HCE := Lib.hid hcell
              clear l1 l2 l3 l4 hos1 hstep hI2 hm hpos hbv hbwr hcell
              go_wp2_with fail
              go_region_held3 (fun w' => ∀ b o, b < w.heap.size → w'.cell? ⟨b, o, none⟩ = wr.cell? ⟨b, o, none⟩) (first | (refine fun b o hb => olds (Below.mono (B := wr.heap.size) ?_ hsz) b o hb; (repeat (first | with_reducible exact Below.refl _ _ | with_reducible assumption | with_reducible refine Below.drew ?_ | with_reducible refine Below.alloc ?_ (by first | omega | (simp; done) | (simp; omega)) _ | with_reducible refine Below.setCell ?_ (by first | omega | (simp; done) | (simp; omega)) _)); done) | (refine olds ?_; (repeat (first | with_reducible exact Below.refl _ _ | with_reducible assumption | with_reducible refine Below.drew ?_ | with_reducible refine Below.alloc ?_ (by first | omega | (simp; done) | (simp; omega)) _ | with_reducible refine Below.setCell ?_ (by first | omega | (simp; done) | (simp; omega)) _)); done) | exact olds hb9)
                (first | (refine step_app2 (by rfl) _ _ _ (by rfl) w.heap.size 26 j0 _ 1 24 und_rows Ji.out Jz0.out Jz1.out Jz2.out rfl (by decide) _ 1 [.slice (some ⟨wr.heap.size, 0, none⟩) 1 1] (by rfl) (own_newH _ w.heap.size 26 1 1 [.slice (some ⟨wr.heap.size, 0, none⟩) 1 1] (wr.heap.size + 1) (by simp) (by omega) rfl (by decide)) _ (S.1.length - pos) _ (os.drop pos) (by rfl) (by simp [L2.out, hsl]) (by intro hno; split at hno <;> cases hno) (by intro ad had t u hu; have ht := (List.getElem?_eq_some_iff.1 hu).1; rw [List.length_drop, L2.out] at ht; have hne : ¬ oc = pos := (by omega); simp [hne] at had; subst had; rw [Addr.add_lit, (own_below L1.out (by repeat (first | with_reducible exact Below.refl _ _ | with_reducible assumption | with_reducible refine Below.drew ?_ | with_reducible refine Below.alloc ?_ (by first | omega | (simp; done) | (simp; omega)) _ | with_reducible refine Below.setCell ?_ (by first | omega | (simp; done) | (simp; omega)) _))).cellAt (pos + t) (by omega), ← List.getElem?_drop]; exact hu) (by intro u hu; exact HOS.out u (List.mem_of_mem_drop hu)) (by unfold maxLen; omega) (by omega) (by simp; omega) ?_; intro v9 w9 hown9 hgr9 hat9; have hb9 : Below w.heap.size wr w9 := Below.grown (Below.mono (by repeat (first | with_reducible exact Below.refl _ _ | with_reducible assumption | with_reducible refine Below.drew ?_ | with_reducible refine Below.alloc ?_ (by first | omega | (simp; done) | (simp; omega)) _ | with_reducible refine Below.setCell ?_ (by first | omega | (simp; done) | (simp; omega)) _)) hsz) hgr9 (by simp; omega) (fun g hg => by cases hg; simp; omega)))
              have HOWN := Lib.hid hown9; have HGR := Lib.hid hgr9; have HB9 := Lib.hid hb9
              obtain ⟨g9, c9, rfl⟩ := own_shape hown9 (by omega)
              have hg9 := (hown9.lt g9 rfl).2
              have hL9 := (own_below L1.out (show Below wr.heap.size wr ((wr.drew.alloc (.cells #[.int .i64 p] 3)).alloc (.cells #[.slice (some ⟨wr.heap.size, 0, none⟩) 1 1] 26)) from (by repeat (first | with_reducible exact Below.refl _ _ | with_reducible assumption | with_reducible refine Below.drew ?_ | with_reducible refine Below.alloc ?_ (by first | omega | (simp; done) | (simp; omega)) _ | with_reducible refine Below.setCell ?_ (by first | omega | (simp; done) | (simp; omega)) _)))).kept hgr9 (.inr (by intro e; have e2 : go = wr.heap.size + 1 := Option.some.inj e; omega))
              have HL9 := Lib.hid hL9
              clear hown9 hgr9 hat9 hL9
              go_wp2_with (first
                | (at_builtin; (refine wpList_app2 rfl (.tmp 87) (.tmp 90) 22 rfl w.heap.size 26 j0 _ 1 24 und_rows Ji.out Jz0.out Jz1.out Jz2.out rfl (by decide) _ 0 [] rfl (own_newH w9 w.heap.size 26 1 0 [] w9.heap.size rfl (Nat.le_trans hsz HB9.out.size) rfl (by decide)) (some ⟨go, 0, none⟩) pos oc (os.take pos) rfl (by simp [L2.out]; omega) (by intro h; cases h) (by intro ad had t u hu; cases had; have ht := (List.getElem?_eq_some_iff.1 hu).1; rw [List.length_take, L2.out] at ht; rw [Addr.add_lit, Nat.zero_add, (HL9.out.alloc _).cellAt t (by omega)]; rw [List.getElem?_take, if_pos (by omega)] at hu; exact hu) (by intro u hu; exact HOS.out u (List.mem_of_mem_take hu)) (by unfold maxLen; omega) (by omega) (by have := HB9.out.size; simp; omega) ?_; intro v10 w10 hown10 hgr10 hat10; have hg910 : w10.ownsRow w.heap.size 26 1 (.slice (some ⟨g9, 0, none⟩) (1 + (S.1.length - pos)) c9) _ _ := (HOWN.out.alloc _).kept hgr10 (.inr (by intro e; have e2 : g9 = w9.heap.size := Option.some.inj e; omega))))
                | (at_builtin; (refine wpList_app2 rfl (.tmp 91) (.tmp 92) 22 rfl w.heap.size 26 j0 _ 1 24 und_rows Ji.out Jz0.out Jz1.out Jz2.out rfl (by decide) _ _ _ rfl hown10 (some ⟨g9, 0, none⟩) (1 + (S.1.length - pos)) c9 ([.slice (some ⟨wr.heap.size, 0, none⟩) 1 1] ++ os.drop pos) rfl (by simp [L2.out, hsl]; omega) (by intro h; cases h) (by intro ad had t u hu; cases had; exact hg910.cells rfl t u hu) (by intro u hu; rcases List.mem_append.1 hu with h | h <;> first | (exact HOS.out u (List.mem_of_mem_drop h)) | (simp at h; subst h; rfl)) (by unfold maxLen; omega) (by omega) (by have := hgr10.size; simp at this; have := HB9.out.size; omega) ?_; intro v11 w11 hown11 hgr11 hat11)))
              have hs9 := HB9.out.size
              have hs10 := hgr10.size
              simp at hs10
              have hbf : Below w.heap.size w w11 := (((HBW.out.trans HB9.out).alloc (Nat.le_trans hsz hs9) (.cells #[] 26)).grown hgr10 (by simp; omega) (fun g hg => by have e2 : w9.heap.size = g := Option.some.inj hg; omega)).grown hgr11 (by omega) (fun g hg => (hown10.lt g hg).1)
              have hLf := Lists.ins3 (wr := wr) (U := (wr.drew.alloc (.cells #[.int .i64 p] 3)).alloc (.cells #[.slice (some ⟨wr.heap.size, 0, none⟩) 1 1] 26)) (B := w.heap.size) (l := [(p : Int)]) (i := pos) (u0 := .slice (some ⟨wr.heap.size, 0, none⟩) 1 1) L2.out L3.out L4.out hpl2 (by repeat (first | with_reducible exact Below.refl _ _ | with_reducible assumption | with_reducible refine Below.drew ?_ | with_reducible refine Below.alloc ?_ (by first | omega | (simp; done) | (simp; omega)) _ | with_reducible refine Below.setCell ?_ (by first | omega | (simp; done) | (simp; omega)) _))
                ((own_newH wr.drew w.heap.size 3 1 1 [.int .i64 p] wr.heap.size rfl hsz rfl (by decide)).alloc _) (fun g hg => by cases hg; exact Nat.le_refl _)
                (own_newH (wr.drew.alloc (.cells #[.int .i64 p] 3)) w.heap.size 26 1 1 [.slice (some ⟨wr.heap.size, 0, none⟩) 1 1] (wr.heap.size + 1) (by simp) (by omega) rfl (by decide)) HGR.out
                (own_newH w9 w.heap.size 26 1 0 [] w9.heap.size rfl (Nat.le_trans hsz hs9) rfl (by decide)) hgr10 hown10 hgr11 (s' := v11) (by have h := hown11; rw [show 0 + pos + (1 + (S.1.length - pos)) = S.2.length + 1 by omega] at h; exact h)
              refine ⟨⟨n + 1, by omega, by go_num, ?_, HI3.out, hbf⟩, by simp [intOf]; omega⟩
              rw [HST.out]; exact hLf
    · clear ho hI hbel
      go_wp2
      go_ret
      have e : ps.take n = ps := List.take_of_length_le (by omega)
      have h3 := HO.out
      rw [e] at h3
      exact ⟨_, rfl, h3, HBL.out⟩
end Go.Proofs.YtoiemkifgdnhaaaGreatDoor
namespace Go.Proofs.YtoiemkifgdnhaaaGreatDoor
open Go Go.RowKit
theorem alivePs_succ (n : Nat) (l : List Int) : alivePs (n + 1) l = alivePs n l ++ (if (n : Int) ∈ l then [n] else []) := by
  unfold alivePs
  rw [List.range_succ, List.filter_append]
  congr 1
  by_cases h : (n : Int) ∈ l <;> simp [h]
set_option maxRecDepth 100000 in
set_option maxHeartbeats 1000000 in
theorem GroupsR_call (w : World) (a b : Value) (A : List (List Nat)) (alive : List Int) (k : Int) (ha : ValRows w a A) (hb : Ints w b alive) (hn : A.length ≤ 500) :
    Calls Tryz.prog 19 #[a, b, .int .i64 k] w (GroupsPost (groupsS A alive k) w) := by
  have HA := Lib.hid ha; have HB := Lib.hid hb
  obtain ⟨ao, ac, rfl, ha1⟩ := ha.1.open
  obtain ⟨bo, bc, rfl, hb1⟩ := hb.1.open
  have ha2 := ha.2
  have hb2 := hb.2.1
  obtain ⟨i0, hi, hz0, hz1, hz2⟩ := info_parts info_int
  have Hi := Lib.hid hi; have Hz0 := Lib.hid hz0; have Hz1 := Lib.hid hz1; have Hz2 := Lib.hid hz2
  clear ha hb hi hz0 hz1 hz2
  obtain ⟨r, hr⟩ : ∃ r, r = rightS A := ⟨_, rfl⟩
  obtain ⟨I, hI⟩ : ∃ I, I = inputsS A := ⟨_, rfl⟩
  obtain ⟨G, hG⟩ : ∃ G, G = groupsS A alive k := ⟨_, rfl⟩
  rw [← hG]
  have HR := Lib.hid hr; have HI := Lib.hid hI; have HGG := Lib.hid hG
  clear hr hI hG
  go_enter Tryz.func19, Tryz.ntmps19
  go_wp2_with fail
  refine (Right_call _ _ A HA.out).mono ?_
  rintro e w1 ⟨rfl, hb1'⟩
  rw [← HR.out]
  by_cases hr : r = true
  · subst hr
    by_cases hk0 : k < 0
    · have hg : G = [] := by rw [HGG.out]; unfold groupsS; rw [if_neg (by intro h; omega)]
      have HB1 := Lib.hid hb1'
      clear hb1'
      go_wp2_with fail
      go_ret
      exact ⟨_, rfl, by rw [hg]; exact Lists.nil _ _, HB1.out⟩
    · have HVA := Lib.hid (HA.out.mono hb1')
      have HB1 := Lib.hid hb1'
      clear hb1'
      go_wp2_with fail
      refine (Inputs_call _ _ A HVA.out).mono ?_
      rintro e w2 ⟨rfl, rfl⟩
      rw [← HI.out]
      by_cases hkI : k ≥ I
      · have hg : G = [] := by rw [HGG.out]; unfold groupsS; rw [if_neg (by rw [← HI.out]; intro h; omega)]
        go_wp2_with fail
        go_ret
        exact ⟨_, rfl, by rw [hg]; exact Lists.nil _ _, HB1.out⟩
      · have HBA := Lib.hid (HB.out.mono HB1.out)
        go_wp2_with fail
        go_loopw [8, 9, 10] (fun o i _ wr => ∃ p : Nat, p ≤ A.length ∧ i = .int .i64 p ∧ wr.ownsRow w.heap.size 3 1 o (alivePs p alive).length (ci (pInts (alivePs p alive))) ∧ Below w.heap.size w wr) (fun _ i _ _ => A.length - (intOf i).toNat)
        case atStart => exact ⟨0, by omega, rfl, World.ownsRow_nil _ _ _ _, HB1.out⟩
        case round =>
          obtain ⟨p, hp, rfl, ho, hb⟩ := hrel
          have HO := Lib.hid ho; have HBP := Lib.hid hb
          by_cases hlt : p < A.length
          · have q1 : (p:Int) < A.length := by omega
            have q0 : 0 ≤ (p:Int) := by omega
            clear ho hb
            go_wp2
            go_loopw [8, 10] (fun o i wr => ∃ j : Nat, j ≤ alive.length ∧ i = .int .i64 j ∧ (∀ t, t < j → alive.getD t 0 ≠ (p : Int)) ∧ wr.ownsRow w.heap.size 3 1 o (alivePs p alive).length (ci (pInts (alivePs p alive))) ∧ Below w.heap.size w wr) (fun _ i _ => alive.length - (intOf i).toNat)
            case atStart => exact ⟨0, by omega, rfl, fun t h => by omega, HO.out, HBP.out⟩
            case round =>
              obtain ⟨j, hj, rfl, hne, ho, hb⟩ := hrel
              have HNE := Lib.hid hne; have HO2 := Lib.hid ho; have HBJ := Lib.hid hb
              by_cases hjl : j < alive.length
              · have s1 : (j:Int) < alive.length := by omega
                have s0 : 0 ≤ (j:Int) := by omega
                obtain ⟨b1, o1, rfl, g1, c1⟩ := (HB.out.mono hb).1.at hjl
                simp only [Nat.mul_one] at c1
                obtain ⟨y, hy⟩ : ∃ y, y = alive.getD j 0 := ⟨_, rfl⟩
                rw [← hy] at c1
                obtain ⟨oa, oc, rfl⟩ := own_slice ho
                have hal := alive_len p alive
                have HY := Lib.hid hy
                clear hne ho hb hy
                by_cases hyp : y = (p : Int)
                · have e0 : (y == (p : Int)) = true := by simp [hyp]
                  have HYP := Lib.hid hyp
                  clear hyp
                  go_wp2_with (at_builtin; refine wpList_app rfl (.tmp 43) (.tmp 45) 26 rfl w.heap.size 3 i0 (.int .i64 0) 1 8 und_ints Hi.out Hz0.out Hz1.out Hz2.out rfl (by decide) _ _ _ rfl (HO2.out.alloc _) ⟨wr.heap.size, 0, none⟩ 1 1 [.int .i64 p] rfl rfl (cell_one_new _ _ _) (by intro q hq; simp at hq; subst hq; rfl) (by unfold maxLen; omega) (by omega) (by have := HBJ.out.size; simp; omega) ?_; intro v' w9 hown hgr hfr)
                  refine ⟨⟨p + 1, by omega, by go_num, ?_, (HBJ.out.alloc HBJ.out.size _).grown hgr (by have := HBJ.out.size; simp; omega) (fun g hg => (HO2.out.lt g hg).1)⟩, by simp [intOf]; omega⟩
                  have hmem : (p : Int) ∈ alive := by
                    rw [← HYP.out, HY.out, List.getD_eq_getElem?_getD, List.getElem?_eq_getElem hjl]; exact List.getElem_mem hjl
                  have e : alivePs (p + 1) alive = alivePs p alive ++ [p] := by rw [alivePs_succ, if_pos hmem]
                  rw [e, List.length_append]
                  have e2 : ci (pInts (alivePs p alive ++ [p])) = ci (pInts (alivePs p alive)) ++ [.int .i64 p] := by simp [ci, pInts]
                  rw [e2]; exact hown
                · have e0 : (y == (p : Int)) = false := by simpa using hyp
                  have HYP := Lib.hid hyp
                  clear hyp
                  go_wp2
                  refine ⟨⟨j + 1, by omega, by go_num, fun t ht => ?_, HO2.out, HBJ.out⟩, by simp [intOf]; omega⟩
                  rcases Nat.lt_succ_iff_lt_or_eq.1 ht with h | rfl
                  · exact HNE.out t h
                  · rw [← HY.out]; exact HYP.out
              · obtain rfl : j = alive.length := by omega
                clear hne ho hb
                go_wp2
                refine ⟨⟨p + 1, by omega, by go_num, ?_, HBJ.out⟩, by simp [intOf]; omega⟩
                have hmem : ¬ (p : Int) ∈ alive := by
                  intro h
                  obtain ⟨t, ht, e⟩ := List.getElem_of_mem h
                  refine HNE.out t ht ?_
                  rw [List.getD_eq_getElem?_getD, List.getElem?_eq_getElem ht]; exact e
                have e : alivePs (p + 1) alive = alivePs p alive := by rw [alivePs_succ, if_neg hmem, List.append_nil]
                rw [e]; exact HO2.out
          · obtain rfl : p = A.length := by omega
            obtain ⟨oa, oc, rfl⟩ := own_slice ho
            have hal := alive_len A.length alive
            have hai := own_ints ho (by rw [pInts_len]; omega) (alive_ints hn)
            have hva := HA.out.mono hb
            obtain ⟨kk, hkk⟩ : ∃ kk : Nat, k = (kk : Int) := ⟨k.toNat, by omega⟩
            have hG : G = (gfold A kk (alivePs A.length alive)).2 := by
              rw [HGG.out]; unfold groupsS; rw [if_pos ⟨HR.out.symm, by omega, by rw [← HI.out]; omega⟩, hkk]; rfl
            have hml : ∀ l ∈ A, l.length = I := fun l hl => by rw [HI.out]; exact (right_rows HR.out.symm l hl).1
            rw [hkk]
            have HGF := Lib.hid hG
            have HAI := Lib.hid hai; have HVA2 := Lib.hid hva; have HML := Lib.hid hml
            clear ho hb hai hva hG hml
            go_wp2_with fail
            refine (Split_call _ _ _ A (alivePs A.length alive) kk I HVA2.out HAI.out HML.out (by omega) alive_lt (by omega)).mono ?_
            rintro e w3 ⟨o3, rfl, hl3, hb3⟩
            go_wp2_with fail
            go_ret
            exact ⟨_, rfl, by rw [HGF.out]; exact hl3.base HBP.out.size, bthen HBP.out hb3⟩
  · have hr' : r = false := by cases r <;> simp_all
    subst hr'
    have hg : G = [] := by rw [HGG.out]; unfold groupsS; rw [if_neg (by rw [← HR.out]; simp)]
    have HB1 := Lib.hid hb1'
    clear hb1'
    go_wp2_with fail
    go_ret
    exact ⟨_, rfl, by rw [hg]; exact Lists.nil _ _, HB1.out⟩
set_option maxRecDepth 100000 in
set_option maxHeartbeats 1000000 in
theorem UsefulR_call (w : World) (a : Value) (A : List (List Nat)) (ha : ValRows w a A) (hn : A.length ≤ 500) (hi10 : inputsS A ≤ 1000) :
    Calls Tryz.prog 22 #[a] w (OwnB w.heap.size (pInts (usefulS A (inputsS A))) w) := by
  have HA := Lib.hid ha
  obtain ⟨ao, ac, rfl, ha1⟩ := ha.1.open
  have ha2 := ha.2
  obtain ⟨i0, hi, hz0, hz1, hz2⟩ := info_parts info_int
  have Hi := Lib.hid hi; have Hz0 := Lib.hid hz0; have Hz1 := Lib.hid hz1; have Hz2 := Lib.hid hz2
  clear ha hi hz0 hz1 hz2
  obtain ⟨I, hI⟩ : ∃ I, I = inputsS A := ⟨_, rfl⟩
  rw [← hI] at hi10 ⊢
  have HI := Lib.hid hI
  clear hI
  go_enter Tryz.func22, Tryz.ntmps22
  go_wp2
  go_loopw [3, 4] (fun o i wr => ∃ k : Nat, k ≤ I ∧ i = .int .i64 k ∧ wr.ownsRow w.heap.size 3 1 o (usefulS A k).length (ci (pInts (usefulS A k))) ∧ Below w.heap.size w wr) (fun _ i _ => I - (intOf i).toNat)
  case atStart => exact ⟨0, by omega, rfl, World.ownsRow_nil _ _ _ _, Below.refl _ _⟩
  case round =>
    obtain ⟨k, hk, rfl, ho, hb⟩ := hrel
    have HO := Lib.hid ho; have HB := Lib.hid hb
    obtain ⟨oa, oc, rfl⟩ := own_slice ho
    have HVA := Lib.hid (HA.out.mono hb)
    clear ho hb
    go_wp2_with fail
    refine (Inputs_call _ _ A HVA.out).mono ?_
    rintro e w1 ⟨rfl, rfl⟩
    rw [← HI.out]
    by_cases hlt : k < I
    · have h1 : (k:Int) < I := by omega
      have h0 : 0 ≤ (k:Int) := by omega
      have hul := useful_len A k
      go_wp2_with fail
      refine (All_call _ _ (by omega)).mono ?_
      rintro e w2 ⟨v2, rfl, ho2, hb2⟩
      have hv2 := own_ints ho2 (by rw [upTo_len]; omega) (fun y hy => by simp [upTo] at hy; obtain ⟨z, hz, rfl⟩ := hy; omega)
      obtain ⟨a2, c2, rfl⟩ := own_slice ho2
      have HV2 := Lib.hid hv2; have HB2 := Lib.hid hb2
      clear hv2 ho2 hb2
      go_wp2_with fail
      refine (GroupsR_call _ _ _ A (upTo A.length) k (HVA.out.mono HB2.out) HV2.out hn).mono ?_
      rintro e w3 ⟨o3, rfl, hl3, hb3⟩
      obtain ⟨a3, c3, rfl⟩ := hl3.slice
      obtain ⟨gl, hgl⟩ : ∃ gl, gl = (groupsS A (upTo A.length) k).length := ⟨_, rfl⟩
      rw [← hgl]
      have HGL := Lib.hid hgl
      have HB3 := Lib.hid (bthen (bthen HB.out HB2.out) hb3)
      have HO3 := Lib.hid (own_below (own_below HO.out HB2.out) hb3)
      clear hl3 hb3 hgl
      by_cases hg : 1 < gl
      · have e1 : (gl : Int) > 1 := by omega
        go_wp2_with (at_builtin; refine wpList_app rfl (.tmp 19) (.tmp 21) 26 rfl w.heap.size 3 i0 (.int .i64 0) 1 8 und_ints Hi.out Hz0.out Hz1.out Hz2.out rfl (by decide) _ _ _ rfl (HO3.out.alloc _) ⟨w3.heap.size, 0, none⟩ 1 1 [.int .i64 k] rfl rfl (cell_one_new _ _ _) (by intro q hq; simp at hq; subst hq; rfl) (by unfold maxLen; omega) (by omega) (by have := HB3.out.size; simp; omega) ?_; intro v' w9 hown hgr hfr)
        refine ⟨⟨k + 1, by omega, by go_num, ?_, (HB3.out.alloc HB3.out.size _).grown hgr (by have := HB3.out.size; simp; omega) (fun g hg => (HO3.out.lt g hg).1)⟩, by simp [intOf]; omega⟩
        have e : usefulS A (k + 1) = usefulS A k ++ [k] := by rw [useful_succ, if_pos (by rw [← HGL.out]; exact hg)]
        rw [e, List.length_append]
        have e2 : ci (pInts (usefulS A k ++ [k])) = ci (pInts (usefulS A k)) ++ [.int .i64 k] := by simp [ci, pInts]
        rw [e2]; exact hown
      · have e1 : ¬ (gl : Int) > 1 := by omega
        go_wp2_with fail
        refine ⟨⟨k + 1, by omega, by go_num, ?_, HB3.out⟩, by simp [intOf]; omega⟩
        have e : usefulS A (k + 1) = usefulS A k := by rw [useful_succ, if_neg (by rw [← HGL.out]; exact hg), List.append_nil]
        rw [e]; exact HO3.out
    · obtain rfl : k = I := by omega
      go_wp2_with fail
      go_ret
      exact ⟨_, rfl, by rw [pInts_len]; exact HO.out, HB.out⟩
end Go.Proofs.YtoiemkifgdnhaaaGreatDoor
namespace Go.Proofs.YtoiemkifgdnhaaaGreatDoor
open Go Go.RowKit
theorem Ints.take {w : World} {ao : Option Addr} {cap : Nat} {X : List Int} {n : Nat} (h : Ints w (.slice ao X.length cap) X) (hn : n ≤ X.length) : Ints w (.slice ao n cap) (X.take n) := by
  obtain ⟨⟨a, c, e, h1, h2⟩, h3, h4⟩ := h
  simp only [Value.slice.injEq, true_and] at e
  obtain ⟨rfl, rfl⟩ := e
  have hl : (X.take n).length = n := by simp; omega
  refine ⟨⟨ao, cap, by rw [hl], by rw [hl]; omega, fun hne => ?_⟩, by rw [hl]; omega, fun x hx => h4 x (List.mem_of_mem_take hx)⟩
  rw [hl] at hne
  obtain ⟨b, off, e, hb, hc⟩ := h2 (by omega)
  refine ⟨b, off, e, hb, fun k hk => ?_⟩
  rw [hl] at hk
  have e2 : (X.take n).getD k 0 = X.getD k 0 := by simp [List.getD_eq_getElem?_getD, List.getElem?_take, hk]
  rw [e2]
  exact hc k (by omega)
theorem gfold_inv0 {A : List (List Nat)} {k : Nat} (hv : ∀ l ∈ A, ∀ x ∈ l, x ≤ 10) (ps : List Nat) (hp : ∀ p ∈ ps, p < A.length) : GInv A (gfold A k ps) ps.length := by
  have hg : ∀ p, gval A k p ≤ 10 := by
    intro p
    unfold gval
    by_cases h1 : p < A.length
    · have e : A.getD p [] = A[p] := by rw [List.getD_eq_getElem?_getD, List.getElem?_eq_getElem h1]; rfl
      rw [e]
      by_cases h2 : k < (A[p]).length
      · have e2 : (A[p]).getD k 0 = (A[p])[k] := by rw [List.getD_eq_getElem?_getD, List.getElem?_eq_getElem h2]; rfl
        rw [e2]; exact hv _ (List.getElem_mem h1) _ (List.getElem_mem h2)
      · rw [List.getD_eq_getElem?_getD, List.getElem?_eq_none (by omega)]; simp
    · rw [show A.getD p [] = [] by rw [List.getD_eq_getElem?_getD, List.getElem?_eq_none (by omega)]; rfl]; simp
  have key : ∀ n, n ≤ ps.length → GInv A (gfold A k (ps.take n)) n := by
    intro n
    induction n with
    | zero => intro _; exact ⟨by simp [gfold], rfl, by simp [gfold], by simp [gfold], by simp [gfold]⟩
    | succ n ih =>
      intro hn
      rw [List.take_succ_eq_append_getElem (by omega), gfold_snoc]
      exact (ih (by omega)).step (hp _ (List.getElem_mem _)) (hg _)
  have := key ps.length (Nat.le_refl _)
  rwa [List.take_length] at this
/-- Groups as lists that read. -/
theorem groups_rows {w : World} {B : Nat} {o : Value} {A : List (List Nat)} {alive : List Int} {k : Int} (h : Lists w B o (groupsS A alive k)) (hr : rightS A = true) (h12 : A.length ≤ 12) : IntRows w o (groupsS A alive k) := by
  have hal := alive_len A.length alive
  have hv : ∀ l ∈ A, ∀ x ∈ l, x ≤ 10 := fun l hl x hx => by have := (right_rows hr l hl).2 x hx; omega
  have hI := gfold_inv0 (k := k.toNat) hv (alivePs A.length alive) alive_lt
  have hc : groupsS A alive k = (gfold A k.toNat (alivePs A.length alive)).2 ∨ groupsS A alive k = [] := by
    unfold groupsS; split
    · exact .inl rfl
    · exact .inr rfl
  rcases hc with e | e
  · rw [e] at h ⊢
    have h1 := hI.len; have h2 := hI.most
    exact h.rows (by omega) fun l hl => by
      obtain ⟨a, b⟩ := hI.inner l hl
      exact ⟨by omega, fun x hx => by have := b x hx; omega⟩
  · rw [e] at h ⊢
    exact h.rows (by simp) (by simp)
set_option maxRecDepth 100000 in
set_option maxHeartbeats 1000000 in
theorem Groups_walk (w : World) (v b : Value) (L : List (List Int)) (X : List Int) (z : Int) (hv : IntRows w v L) (hX : Ints w b X) (hG : G w) (hT : GT w) : Calls Tryz.prog 4 #[v, b, .int .i64 z] w (TruePost w) := by
  have HV := Lib.hid hv; have HG := Lib.hid hG; have HT := Lib.hid hT; have HX := Lib.hid hX
  obtain ⟨ao, ac, rfl, hv1⟩ := hv.1.open
  obtain ⟨xo, xc, rfl, hx1⟩ := hX.1.open
  obtain ⟨n, hn⟩ : ∃ n, n = min X.length 30 := ⟨_, rfl⟩
  have hmin : min (X.length : Int) 30 = n := by omega
  have hn0 : (0 : Int) ≤ n := by omega
  have hn1 : (n : Int) ≤ xc := by omega
  have hnl : n ≤ X.length := by omega
  obtain ⟨hr, hal, hin⟩ := made_right L
  obtain ⟨A, hA⟩ : ∃ A, A = madeS L := ⟨_, rfl⟩
  rw [← hA] at hr hal hin
  have hA12 : A.length ≤ 12 := by omega
  have hA500 : A.length ≤ 500 := by omega
  have HA := Lib.hid hA; have HR := Lib.hid hr
  have HXT := Lib.hid (HX.out.take hnl)
  clear hv hG hT hA hr hal hX hn
  go_enter Tryz.func4, Tryz.ntmps4
  go_wp2_with (first | (go_at_call 10; refine (sanity_call _ HG.out HT.out).mono ?_; rintro e w1 ⟨rfl, hb1⟩) | (go_at_call 11; refine (Made_call _ _ L (HV.out.mono hb1)).mono ?_; rintro e w2 ⟨o2, rfl, ho2, hb2⟩))
  rw [← HA.out] at ho2
  have hva : ValRows w2 o2 A := by have := ho2; rw [HA.out] at this ⊢; exact this.made
  obtain ⟨oa, oc, rfl, _⟩ := hva.1.open
  have hb12 := bthen hb1 hb2
  have HVA := Lib.hid hva; have HB := Lib.hid hb12; have HG2 := Lib.hid (HG.out.mono hb12); have HX2 := Lib.hid (HXT.out.mono hb12)
  obtain ⟨Y, hY⟩ : ∃ Y, Y = X.take n := ⟨_, rfl⟩
  have hYl : Y.length = n := by rw [hY]; simp; omega
  obtain ⟨I, hI⟩ : ∃ I, I = inputsS A := ⟨_, rfl⟩
  rw [← hI] at hin
  have HY := Lib.hid hY; have HI := Lib.hid hI
  have HX3 : RowKit.Hid (Ints w2 (.slice xo n xc) Y) := Lib.hid (by rw [HY.out]; exact HX2.out)
  clear hva hb12 ho2 hb1 hb2 hY hI
  go_loopw [9] (fun i wr => ∃ k : Nat, k ≤ I + 2 ∧ i = .int .i64 ((k : Int) - 1) ∧ Below w2.heap.size w2 wr) (fun i _ => I + 2 - (intOf i + 1).toNat)
  case atStart => exact ⟨0, by omega, rfl, Below.refl _ _⟩
  case round =>
    obtain ⟨k, hk, rfl, hb⟩ := hrel
    have HBB := Lib.hid hb
    clear hb
    go_wp2_with fail
    refine (Inputs_call _ _ A (HVA.out.mono HBB.out)).mono ?_
    rintro e w3 ⟨rfl, rfl⟩
    rw [← HI.out]
    by_cases hlt : k < I + 2
    · have q1 : (k : Int) - 1 ≤ I := by omega
      go_wp2_with fail
      refine (Groups_call _ _ _ A Y ((k : Int) - 1) (HVA.out.mono HBB.out) (HX3.out.mono HBB.out) (HG2.out.mono HBB.out) hA500).mono ?_
      rintro e w4 ⟨o4, rfl, hl4, hb4⟩
      have hb24 := bthen HBB.out hb4
      have HL4 := Lib.hid hl4; have HB4 := Lib.hid hb24
      obtain ⟨a4, c4, rfl⟩ := hl4.slice
      clear hl4 hb24 hb4
      go_wp2_with fail
      refine (GroupsR_call _ _ _ A Y ((k : Int) - 1) (HVA.out.mono HB4.out) (HX3.out.mono HB4.out) hA500).mono ?_
      rintro e w5 ⟨o5, rfl, hl5, hb5⟩
      obtain ⟨a5, c5, rfl⟩ := hl5.slice
      have r4 := groups_rows (HL4.out.below hb5) HR.out hA12
      have r5 := groups_rows hl5 HR.out hA12
      have HR4 := Lib.hid r4; have HR5 := Lib.hid r5; have HB5 := Lib.hid (bthen HB4.out hb5)
      clear r4 r5 hl5 hb5
      go_wp2_with fail
      refine (lists_same _ _ _ _ HR4.out HR5.out).mono ?_
      rintro e w6 ⟨rfl, hb6⟩
      go_wp2_with fail
      exact ⟨⟨k + 1, by omega, by congr 1; omega, bthen HB5.out hb6⟩, by simp [intOf]; omega⟩
    · have q1 : ¬ ((k : Int) - 1 ≤ I) := by omega
      go_wp2_with fail
      refine (Groups_call _ _ _ A Y z (HVA.out.mono HBB.out) (HX3.out.mono HBB.out) (HG2.out.mono HBB.out) hA500).mono ?_
      rintro e w4 ⟨o4, rfl, hl4, hb4⟩
      have hb24 := bthen HBB.out hb4
      have HL4 := Lib.hid hl4; have HB4 := Lib.hid hb24
      obtain ⟨a4, c4, rfl⟩ := hl4.slice
      clear hl4 hb24 hb4
      go_wp2_with fail
      refine (GroupsR_call _ _ _ A Y z (HVA.out.mono HB4.out) (HX3.out.mono HB4.out) hA500).mono ?_
      rintro e w5 ⟨o5, rfl, hl5, hb5⟩
      obtain ⟨a5, c5, rfl⟩ := hl5.slice
      have r4 := groups_rows (HL4.out.below hb5) HR.out hA12
      have r5 := groups_rows hl5 HR.out hA12
      have HR4 := Lib.hid r4; have HR5 := Lib.hid r5; have HB5 := Lib.hid (bthen HB4.out hb5)
      clear r4 r5 hl5 hb5
      go_wp2_with fail
      refine (lists_same _ _ _ _ HR4.out HR5.out).mono ?_
      rintro e w6 ⟨rfl, hb6⟩
      have HB6 := Lib.hid (bthen HB5.out hb6)
      clear hb6
      go_wp2_with fail
      refine (Useful_call _ _ A (HVA.out.mono HB6.out) (HG2.out.mono HB6.out) hA500).mono ?_
      rintro e w7 ⟨v7, rfl, ho7, hb7⟩
      have HO7 := Lib.hid ho7; have HB7 := Lib.hid (bthen HB6.out hb7)
      obtain ⟨a7, c7, rfl⟩ := own_slice ho7
      clear ho7 hb7
      go_wp2_with fail
      refine (UsefulR_call _ _ A (HVA.out.mono HB7.out) hA500 (by rw [← HI.out]; omega)).mono ?_
      rintro e w8 ⟨v8, rfl, ho8, hb8⟩
      have hul := useful_len A (inputsS A)
      rw [← HI.out] at hul
      have hux : ∀ x ∈ pInts (usefulS A (inputsS A)), -9223372036854775808 ≤ x ∧ x ≤ 9223372036854775807 := by
        intro x hx
        simp only [pInts, List.mem_map] at hx
        obtain ⟨y, hy, rfl⟩ := hx
        have h1 := List.mem_range.1 (List.mem_filter.1 hy).1
        rw [← HI.out] at h1
        omega
      have hi7 := own_ints (own_below HO7.out hb8) (by rw [pInts_len, ← HI.out]; omega) hux
      have hi8 := own_ints ho8 (by rw [pInts_len, ← HI.out]; omega) hux
      obtain ⟨a8, c8, rfl⟩ := own_slice ho8
      have HI7 := Lib.hid hi7; have HI8 := Lib.hid hi8; have HB8 := Lib.hid (bthen HB7.out hb8)
      clear ho8 hb8 hi7 hi8 hux
      go_wp2_with fail
      refine (ints13 _ _ _ _ _ HI7.out HI8.out).mono ?_
      rintro e w9 ⟨rfl, hb9⟩
      simp only [beq_self_eq_true]
      go_wp2_with fail
      go_ret
      exact ⟨rfl, bthen HB.out (bthen HB8.out hb9)⟩
end Go.Proofs.YtoiemkifgdnhaaaGreatDoor
