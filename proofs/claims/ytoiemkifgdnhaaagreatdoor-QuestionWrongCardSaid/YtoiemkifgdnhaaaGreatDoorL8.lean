/- question.groups divides programs by an input, in the order of the values. Conditions: right answers of the eleven values; the programs are there; the table of powers holds powers. -/
import Derived.Test.YtoiemkifgdnhaaaGreatDoorL6
import Derived.Test.YtoiemkifgdnhaaaGreatDoorL5
import Derived.Test.YtoiemkifgdnhaaaGreatDoorL7
namespace Go.Proofs.YtoiemkifgdnhaaaGreatDoor
open Go Go.RowKit
def gval (A : List (List Nat)) (k p : Nat) : Nat := (A.getD p []).getD k 0
def gstep (A : List (List Nat)) (k : Nat) (s : List Nat × List (List Int)) (p : Nat) : List Nat × List (List Int) :=
  if gval A k p ∈ s.1 then (s.1, s.2.set (posOf s.1 (gval A k p)) (s.2.getD (posOf s.1 (gval A k p)) [] ++ [(p : Int)]))
  else (insAt s.1 (posOf s.1 (gval A k p)) (gval A k p), insAt s.2 (posOf s.1 (gval A k p)) [(p : Int)])
def gfold (A : List (List Nat)) (k : Nat) (ps : List Nat) : List Nat × List (List Int) := ps.foldl (gstep A k) ([], [])
theorem gfold_snoc (A : List (List Nat)) (k : Nat) (ps : List Nat) (p : Nat) : gfold A k (ps ++ [p]) = gstep A k (gfold A k ps) p := by simp [gfold, List.foldl_append]
theorem posOf_spec (xs : List Nat) (v : Nat) : (∀ j, j < posOf xs v → xs.getD j 0 < v) ∧ (posOf xs v < xs.length → v ≤ xs.getD (posOf xs v) 0) := by
  induction xs with
  | nil => simp [posOf]
  | cons x xs ih =>
    by_cases h : x < v
    · have e : posOf (x :: xs) v = posOf xs v + 1 := by simp [posOf, List.takeWhile_cons, h]
      rw [e]
      refine ⟨fun j hj => ?_, fun hj => ?_⟩
      · cases j with
        | zero => simpa using h
        | succ j => simpa using ih.1 j (by omega)
      · simpa using ih.2 (by simpa using hj)
    · have e : posOf (x :: xs) v = 0 := by simp [posOf, List.takeWhile_cons, h]
      rw [e]
      exact ⟨fun j hj => by omega, fun _ => by simpa using h⟩
theorem posOf_mem {xs : List Nat} (hs : xs.Pairwise (· < ·)) {v : Nat} (h : v ∈ xs) : posOf xs v < xs.length ∧ xs.getD (posOf xs v) 0 = v := by
  obtain ⟨k, hk, rfl⟩ := mem_getD.1 h
  have : posOf xs (xs.getD k 0) = k := posOf_of (by omega) (fun j hj => sorted_lt hs hj hk) (fun _ => Nat.le_refl _)
  rw [this]; exact ⟨hk, rfl⟩
theorem insAt_sorted {xs : List Nat} (hs : xs.Pairwise (· < ·)) {v : Nat} (h : v ∉ xs) : (insAt xs (posOf xs v) v).Pairwise (· < ·) := by
  have hp := posOf_le xs v
  obtain ⟨h1, h2⟩ := posOf_spec xs v
  rw [List.pairwise_iff_getElem]
  intro i j hi hj hij
  have key : ∀ k (hk : k < (insAt xs (posOf xs v) v).length), (insAt xs (posOf xs v) v)[k] = if k < posOf xs v then xs.getD k 0 else if k = posOf xs v then v else xs.getD (k - 1) 0 := by
    intro k hk
    have e := insAt_get xs (posOf xs v) v hp k
    rw [List.getElem?_eq_getElem hk] at e
    rw [insAt_len _ _ _ hp] at hk
    split at e
    · rename_i hlt; rw [if_pos hlt, List.getD_eq_getElem?_getD, ← e]; rfl
    · rename_i hlt
      rw [if_neg hlt]
      split at e
      · rename_i he; rw [if_pos he]; simpa using e
      · rename_i he; rw [if_neg he, List.getD_eq_getElem?_getD, ← e]; rfl
  rw [insAt_len _ _ _ hp] at hi hj
  have hne : ∀ k, k < xs.length → xs.getD k 0 ≠ v := fun k hk e => h (mem_getD.2 ⟨k, hk, e⟩)
  have hge : ∀ k, posOf xs v ≤ k → k < xs.length → v < xs.getD k 0 := by
    intro k hk hkl
    have h3 := h2 (by omega)
    have h4 := hne _ (show posOf xs v < xs.length by omega)
    by_cases e : k = posOf xs v
    · subst e; omega
    · have := sorted_lt hs (show posOf xs v < k by omega) hkl; omega
  rw [key i, key j]
  split
  · rename_i a
    split
    · rename_i b; exact sorted_lt hs hij (by omega)
    · split
      · exact h1 i a
      · rename_i b c; have := h1 i a; have := hge (j - 1) (by omega) (by omega); omega
  · rename_i a
    rw [if_neg (show ¬ j < posOf xs v by omega), if_neg (show ¬ j = posOf xs v by omega)]
    split
    · exact hge (j - 1) (by omega) (by omega)
    · exact sorted_lt hs (by omega) (by omega)
structure GInv (A : List (List Nat)) (s : List Nat × List (List Int)) (n : Nat) : Prop where
  sorted : s.1.Pairwise (· < ·)
  len : s.2.length = s.1.length
  most : s.1.length ≤ n
  small : ∀ x ∈ s.1, x ≤ 10
  inner : ∀ l ∈ s.2, l.length ≤ n ∧ ∀ x ∈ l, 0 ≤ x ∧ x < A.length
theorem mem_insAt {α : Type} {l : List α} {i : Nat} {x y : α} (h : y ∈ insAt l i x) : y = x ∨ y ∈ l := by
  unfold insAt at h
  simp only [List.mem_append, List.mem_cons] at h
  rcases h with h | h | h
  · exact .inr (List.mem_of_mem_take h)
  · exact .inl h
  · exact .inr (List.mem_of_mem_drop h)
theorem GInv.step {A : List (List Nat)} {k p n : Nat} {s : List Nat × List (List Int)} (h : GInv A s n) (hp : p < A.length) (hv : gval A k p ≤ 10) : GInv A (gstep A k s p) (n + 1) := by
  have hpl := posOf_le s.1 (gval A k p)
  unfold gstep
  split
  · rename_i hm
    refine ⟨h.sorted, by simp [h.len], by have := h.most; simp; omega, h.small, ?_⟩
    intro l hl
    rcases List.mem_or_eq_of_mem_set hl with hl | rfl
    · have := h.inner l hl; exact ⟨by omega, this.2⟩
    · have hlt := (posOf_mem h.sorted hm).1
      rw [← h.len] at hlt
      have hin := h.inner (s.2.getD (posOf s.1 (gval A k p)) []) (by rw [List.getD_eq_getElem?_getD]; simp [hlt])
      refine ⟨by rw [List.length_append, List.length_singleton]; omega, fun x hx => ?_⟩
      simp only [List.mem_append, List.mem_singleton] at hx
      rcases hx with hx | rfl
      · exact hin.2 x hx
      · omega
  · rename_i hm
    refine ⟨insAt_sorted h.sorted hm, by rw [insAt_len _ _ _ hpl, insAt_len _ _ _ (by rw [h.len]; exact hpl), h.len], by rw [insAt_len _ _ _ hpl]; have := h.most; omega, ?_, ?_⟩
    · intro x hx
      rcases mem_insAt hx with rfl | hx
      · exact hv
      · exact h.small x hx
    · intro l hl
      rcases mem_insAt hl with rfl | hl
      · exact ⟨by simp, fun x hx => by simp at hx; omega⟩
      · have := h.inner l hl; exact ⟨by omega, this.2⟩
theorem own_shape {w : World} {B : Nat} {e : TypeId} {s : Nat} {v : Value} {n : Nat} {xs : List Value} (h : w.ownsRow B e s v n xs) (hn : 0 < n) : ∃ g cap, v = .slice (some ⟨g, 0, none⟩) n cap := by
  rcases own_cases h with ⟨_, h⟩ | ⟨g, cap, rfl, _⟩
  · omega
  · exact ⟨g, cap, rfl⟩
theorem after_app {W w3 : World} {B go cap at_ : Nat} {n m : Nat} {os xs : List Value} {u : Value} (h1 : W.ownsRow B 26 1 (.slice (some ⟨go, 0, none⟩) n cap) n os) (h2 : W.ownsRow B 3 1 u m xs) (hg : W.grownBy w3 u.ownBlock) (hu : os[at_]? = some u) :
    w3.cell? ⟨go, at_, none⟩ = some u ∧ w3.frozen? ⟨go, at_, none⟩ = false := by
  have h3 := h1.kept hg (own_apart h1 h2 (by decide))
  have hl : at_ < n * 1 := by have := (List.getElem?_eq_some_iff.1 hu).1; have := h1.1; omega
  exact ⟨by rw [h3.cellAt at_ hl]; exact hu, h3.frozenAt at_⟩
theorem Lists.open {w : World} {B : Nat} {o : Value} {ls : List (List Int)} (h : Lists w B o ls) {at_ : Nat} (hl : at_ < ls.length) : ∃ go cap os u, o = .slice (some ⟨go, 0, none⟩) ls.length cap ∧ ls.length ≤ cap ∧ B ≤ go ∧
    w.ownsRow B 26 1 (.slice (some ⟨go, 0, none⟩) ls.length cap) ls.length os ∧ os.length = ls.length ∧
    (∀ (k : Nat) (u : Value) (l : List Int), os[k]? = some u → ls[k]? = some l → w.ownsRow B 3 1 u l.length (ci l)) ∧ Apart os ∧ os[at_]? = some u ∧ ls[at_]? = some (ls.getD at_ []) ∧ w.cell? ⟨go, at_, none⟩ = some u := by
  obtain ⟨os, h1, h2, h3, h4⟩ := h
  rcases own_cases h1 with ⟨_, h⟩ | ⟨go, cap, rfl, hb, hg, hn, hc⟩
  · omega
  · refine ⟨go, cap, os, os[at_]'(by omega), rfl, hn, hb, h1, h2, h3, h4, by simp, by simp [hl], ?_⟩
    rw [hc at_ (by omega)]; simp
theorem Lists.lt' {w : World} {B : Nat} {o : Value} {ls : List (List Int)} (h : Lists w B o ls) {g : Nat} (hg : o.ownBlock = some g) : g < w.heap.size := by
  obtain ⟨os, h1, _⟩ := h
  exact (h1.lt g hg).2
theorem map_insAt {α β : Type} (f : α → β) (l : List α) (i : Nat) (x : α) : (insAt l i x).map f = insAt (l.map f) i (f x) := by simp [insAt, List.map_take, List.map_drop]
theorem cvs_insAt (zs : List (Nat × Option Addr × Nat)) (i : Nat) (z : Nat × Option Addr × Nat) : cvs (insAt zs i z) = (cvs zs).take (i * 7) ++ (cv z ++ (cvs zs).drop (i * 7)) := by
  have h1 : ∀ (l : List (Nat × Option Addr × Nat)) (i : Nat), cvs (l.take i) = (cvs l).take (i * 7) ∧ cvs (l.drop i) = (cvs l).drop (i * 7) := by
    intro l
    induction l with
    | nil => intro i; simp [cvs]
    | cons a l ih =>
      intro i
      cases i with
      | zero => simp [cvs]
      | succ i =>
        obtain ⟨e1, e2⟩ := ih i
        have hl : (cv a).length = 7 := rfl
        constructor
        · show cv a ++ cvs (l.take i) = (cv a ++ cvs l).take ((i + 1) * 7)
          rw [e1, show (i + 1) * 7 = (cv a).length + i * 7 by rw [hl]; omega, List.take_append]
          simp
          rw [List.take_of_length_le (by omega)]
        · show cvs (l.drop i) = (cv a ++ cvs l).drop ((i + 1) * 7)
          rw [e2, show (i + 1) * 7 = (cv a).length + i * 7 by rw [hl]; omega, List.drop_append]
          simp
  unfold insAt
  obtain ⟨e1, e2⟩ := h1 zs i
  show (zs.take i ++ (z :: zs.drop i)).flatMap cv = _
  rw [List.flatMap_append, List.flatMap_cons]
  show cvs (zs.take i) ++ (cv z ++ cvs (zs.drop i)) = _
  rw [e1, e2]
/-- What groups leaves: the values in order, and for each its programs. -/
def GrpPost (A : List (List Nat)) (k : Nat) (ps : List Nat) (w : World) (en : Ending) (w' : World) : Prop :=
  ∃ v o zs, en = .returned (.tuple #[v, o]) ∧ w'.ownsRow w.heap.size 47 7 v (gfold A k ps).1.length (cvs zs) ∧ zs.map (·.1) = (gfold A k ps).1 ∧ Lists w' w.heap.size o (gfold A k ps).2 ∧ Below w.heap.size w w'
def pInts (ps : List Nat) : List Int := ps.map fun (p : Nat) => (p : Int)
set_option maxRecDepth 100000 in
set_option maxHeartbeats 4000000 in
theorem groups_call (w : World) (a b : Value) (A : List (List Nat)) (ps : List Nat) (k m : Nat) (ha : ValRows w a A) (hb : Ints w b (pInts ps)) (hG : G w) (hA : ∀ l ∈ A, l.length = m) (hk : k < m) (hps : ∀ p ∈ ps, p < A.length) (hlen : ps.length ≤ 500) :
    Calls Tryz.prog 52 #[a, b, .int .i64 k] w (GrpPost A k ps w) := by
  have HA := Lib.hid ha; have HB := Lib.hid hb; have HG := Lib.hid hG; have HAL := Lib.hid hA; have HPS := Lib.hid hps
  obtain ⟨ao, ac, rfl, ha1⟩ := ha.1.open
  obtain ⟨bo, bc, rfl, hb1⟩ := hb.1.open
  have ha2 := ha.2
  have hkz : (0:Int) ≤ (k:Int) := by omega
  have hlp : (pInts ps).length = ps.length := by simp [pInts]
  rw [hlp] at hb1 ⊢
  have HLP := Lib.hid hlp
  clear ha hb hG hA hps hlp
  go_enter Tryz.func52, Tryz.ntmps52
  go_wp2
  go_loopw [6, 7, 15] (fun v o i wr => ∃ (n : Nat) (zs : List (Nat × Option Addr × Nat)), n ≤ ps.length ∧ i = .int .i64 n ∧ wr.ownsRow w.heap.size 47 7 v (gfold A k (ps.take n)).1.length (cvs zs) ∧ zs.map (·.1) = (gfold A k (ps.take n)).1 ∧
      Lists wr w.heap.size o (gfold A k (ps.take n)).2 ∧ GInv A (gfold A k (ps.take n)) n ∧ Below w.heap.size w wr) (fun _ _ i _ => ps.length - (intOf i).toNat)
  case atStart => exact ⟨0, [], by omega, rfl, World.ownsRow_nil _ _ _ _, rfl, Lists.nil _ _, ⟨by simp [gfold], rfl, by simp [gfold], by simp [gfold], by simp [gfold]⟩, Below.refl _ _⟩
  case round =>
    obtain ⟨n, zs, hn, rfl, hv, hz, ho, hI, hbel⟩ := hrel
    have HV := Lib.hid hv; have HZ := Lib.hid hz; have HO := Lib.hid ho; have HI := Lib.hid hI; have HBL := Lib.hid hbel
    by_cases hlt : n < ps.length
    · obtain ⟨p, hp⟩ : ∃ p, p = ps[n] := ⟨_, rfl⟩
      have hpA : p < A.length := by rw [hp]; exact HPS.out _ (List.getElem_mem _)
      have h1 : (n:Int) < ps.length := by omega
      have h2 : 0 ≤ (n:Int) := by omega
      have h3 : (p:Int) < A.length := by omega
      have h4 : 0 ≤ (p:Int) := by omega
      obtain ⟨b1, o1, rfl, g1, p1⟩ := (HB.out.mono hbel).1.at (show n < (pInts ps).length by rw [HLP.out]; exact hlt)
      have hpe : (pInts ps).getD n 0 = (p : Int) := by rw [hp]; simp [pInts, hlt]
      rw [hpe] at p1
      obtain ⟨b2, o2, rfl, g2, ra, rc, q0, q1⟩ := (HA.out.mono hbel).1.at hpA
      have hrl : (A.getD p []).length = m := HAL.out _ (by rw [List.getD_eq_getElem?_getD]; simp [hpA])
      rw [hrl] at q0 q1
      obtain ⟨b3, o3, rfl, g3, c3, d3, r0, r1, r2, r3, r4, r5, r6⟩ := q1.1.at (show k < (A.getD p []).length by rw [hrl]; exact hk)
      have h5 : (k:Int) < m := by omega
      have hx : (A.getD p []).getD k 0 ≤ 10 := getD_le q1.2.2 (by rw [hrl]; exact hk)
      have HQ := Lib.hid q1
      simp only [Nat.mul_one] at p1 q0
      obtain ⟨x, hxe⟩ : ∃ x, x = gval A k p := ⟨_, rfl⟩
      rw [show (A.getD p []).getD k 0 = x from hxe.symm] at r0 r1 r2 r4 hx
      have HXE := Lib.hid hxe; have HP := Lib.hid hp
      clear hv hz ho hI hbel q1 hxe hpe hp
      go_wp2_with fail
      obtain ⟨BX, hBX⟩ : ∃ BX : Obj, BX = .cells #[.int .i64 (kd x), .string (st x), .int .i64 (dn x), .int .i64 0, .int .i64 (nn x), .slice c3 0 d3, .slice none 0 0] 47 := ⟨_, rfl⟩
      have hbX := below1 wr BX
      have hVX : Vals (wr.alloc BX) u6 (gfold A k (ps.take n)).1 := by
        have := own_vals (own_below HV.out hbX) (by have h := HI.out.most; have : zs.length = (gfold A k (ps.take n)).1.length := by rw [← HZ.out]; simp
                                                    omega) (by intro z hzz; exact HI.out.small z.1 (by rw [← HZ.out]; exact List.mem_map_of_mem hzz))
        rwa [HZ.out] at this
      have hS := search_call compare_call (wr.alloc BX) u6 (gfold A k (ps.take n)).1 x c3 d3 hVX hx (HG.out.mono (bthen HBL.out hbX)) HI.out.sorted
      have HS := Lib.hid hS
      have hbX2 := Lib.hid hbX
      rw [← hBX]
      refine HS.out.mono ?_
      clear hS hVX
      rintro e w1 ⟨rfl, hb1x⟩
      have HB1 := Lib.hid hb1x
      have hc1 := olds hb1x
      have HBX := Lib.hid hBX
      have e0 : w1.cell? ⟨wr.heap.size, 0, none⟩ = some (.int .i64 (kd x)) := by rw [hc1 _ _ (by simp), hBX]; go_simp
      have e1 : w1.cell? ⟨wr.heap.size, 1, none⟩ = some (.string (st x)) := by rw [hc1 _ _ (by simp), hBX]; go_simp
      have e2 : w1.cell? ⟨wr.heap.size, 2, none⟩ = some (.int .i64 (dn x)) := by rw [hc1 _ _ (by simp), hBX]; go_simp
      have e3 : w1.cell? ⟨wr.heap.size, 3, none⟩ = some (.int .i64 0) := by rw [hc1 _ _ (by simp), hBX]; go_simp
      have e4 : w1.cell? ⟨wr.heap.size, 4, none⟩ = some (.int .i64 (nn x)) := by rw [hc1 _ _ (by simp), hBX]; go_simp
      have e5 : w1.cell? ⟨wr.heap.size, 5, none⟩ = some (.slice c3 0 d3) := by rw [hc1 _ _ (by simp), hBX]; go_simp
      have e6 : w1.cell? ⟨wr.heap.size, 6, none⟩ = some (.slice none 0 0) := by rw [hc1 _ _ (by simp), hBX]; go_simp
      clear hc1 hb1x hBX hbX p1 q0 r0 r1 r2 r3 r4 r5 r6
      generalize hat : posOf (gfold A k (ps.take n)).1 x = at_ at *
      have HAT := Lib.hid hat; clear hat
      by_cases hm : x ∈ (gfold A k (ps.take n)).1
      · have hmd : decide (x ∈ (gfold A k (ps.take n)).1) = true := by simpa using hm
        have HM := Lib.hid hm; clear hm
        have hlen1 : at_ < (gfold A k (ps.take n)).2.length := by rw [HI.out.len, ← HAT.out]; exact (posOf_mem HI.out.sorted HM.out).1
        have HLA := Lib.hid hlen1; clear hlen1
        have HLO := Lib.hid ((HO.out.below hbX2.out).below HB1.out)
        have HBW := Lib.hid (bthen (bthen HBL.out hbX2.out) HB1.out)
        have HVW := Lib.hid (own_below (own_below HV.out hbX2.out) HB1.out)
        have HLEN := Lib.hid (show ((gfold A k (ps.take n)).2.getD at_ []).length ≤ 1000 by
          have := (HI.out.inner ((gfold A k (ps.take n)).2.getD at_ []) (by rw [List.getD_eq_getElem?_getD]; simp [HLA.out])).1
          omega)
        obtain ⟨go, cap, os, u, rfl, hcap, hBgo, l1, l2, l3, l4, hu, hl, hcu⟩ := HLO.out.open HLA.out
        have hul := l3 _ _ _ hu hl
        have HUL := Lib.hid hul
        have h6 : (at_ : Int) < ((gfold A k (ps.take n)).2).length := by have := HLA.out; omega
        have h7 : (0:Int) ≤ at_ := by omega
        have L1 := Lib.hid l1; have L2 := Lib.hid l2; have L3 := Lib.hid l3; have L4 := Lib.hid l4; have HU := Lib.hid hu; have HL := Lib.hid hl
        clear l1 l2 l3 l4 hu hl hul
        have hpl := HLEN.out
        obtain ⟨i0, hi, hz0, hz1, hz2⟩ := info_parts info_int
        have Hi := Lib.hid hi; have Hz0 := Lib.hid hz0; have Hz1 := Lib.hid hz1; have Hz2 := Lib.hid hz2
        clear hi hz0 hz1 hz2
        go_wp2_with (at_builtin; refine wpList_app rfl (.tmp 48) (.tmp 50) 26 rfl w.heap.size 3 i0 (.int .i64 0) 1 8 und_ints Hi.out Hz0.out Hz1.out Hz2.out rfl (by decide) _ _ _ rfl (HUL.out.alloc _) ⟨w1.heap.size, 0, none⟩ 1 1 [.int .i64 p] rfl rfl (cell_one_new _ _ _) (by intro q hq; simp at hq; subst hq; rfl) (by unfold maxLen; omega) (by omega) (by have := HBW.out.size; simp; omega) ?_; intro v' w9 hown hgr hfr; obtain ⟨g9, k9, rfl⟩ := own_shape hown (by omega); obtain ⟨y1, y2⟩ := after_app (L1.out.alloc _) (HUL.out.alloc _) hgr HU.out; have HOWN := Lib.hid hown; have HGR := Lib.hid hgr; have HFR := Lib.hid hfr; clear hown hgr hfr)
        have hgr2 : w1.grownBy w9 u.ownBlock := ⟨HGR.out.os, HGR.out.tape, HGR.out.output, by have := HGR.out.size; simp at this; omega, fun q hq hne => by rw [HGR.out.block q (by simp; omega) hne]; exact Below.heap_alloc _ _ _ hq⟩
        have hfr2 := HFR.out
        have hfr2 : Value.ownBlock (.slice (some ⟨g9, 0, none⟩) (((gfold A k (ps.take n)).2.getD at_ []).length + 1) k9) = u.ownBlock ∨ ∀ g, Value.ownBlock (.slice (some ⟨g9, 0, none⟩) (((gfold A k (ps.take n)).2.getD at_ []).length + 1) k9) = some g → w1.heap.size ≤ g := by
          rcases hfr2 with h | h
          · exact .inl h
          · exact .inr fun g hg => by have := h g hg; simp at this; omega
        have hLN := Lists.append (x := (p : Int)) L1.out L2.out L3.out L4.out HU.out HL.out (by simpa [ci] using HOWN.out) hgr2 hfr2
        have HLN := Lib.hid hLN; clear hLN
        have hVN : (w9.setCell ⟨go, at_, none⟩ (.slice (some ⟨g9, 0, none⟩) (((gfold A k (ps.take n)).2.getD at_ []).length + 1) k9)).ownsRow w.heap.size 47 7 u6 _ _ := ownsRow_setCell_other (HVW.out.kept hgr2 (own_apart HVW.out HUL.out (by decide))) (fun h => by
          have := own_apart HVW.out L1.out (by decide); rw [h] at this; simp [Value.ownBlock] at this) (.slice (some ⟨g9, 0, none⟩) (((gfold A k (ps.take n)).2.getD at_ []).length + 1) k9)
        have HVN := Lib.hid hVN; clear hVN
        have hBN : Below w.heap.size w (w9.setCell ⟨go, at_, none⟩ (.slice (some ⟨g9, 0, none⟩) (((gfold A k (ps.take n)).2.getD at_ []).length + 1) k9)) := (HBW.out.grown hgr2 (by have := HBW.out.size; omega) (fun g hg => (HUL.out.lt g hg).1)).setCell hBgo _
        have HBN := Lib.hid hBN; clear hBN hgr2 hfr2
        go_roundw
        case rel =>
          have hst : gfold A k (ps.take (n + 1)) = ((gfold A k (ps.take n)).1, (gfold A k (ps.take n)).2.set at_ ((gfold A k (ps.take n)).2.getD at_ [] ++ [(p : Int)])) := by
            rw [List.take_succ_eq_append_getElem hlt, gfold_snoc, ← HP.out]; unfold gstep
            rw [← HXE.out, if_pos HM.out, HAT.out]
          have hI2 : GInv A (gfold A k (ps.take (n + 1))) (n + 1) := by
            rw [List.take_succ_eq_append_getElem hlt, gfold_snoc, ← HP.out]; exact HI.out.step hpA (by rw [← HXE.out]; exact hx)
          refine ⟨n + 1, zs, by omega, by go_num, ?_, ?_, ?_, hI2, HBN.out⟩
          · rw [hst]; exact HVN.out
          · rw [hst]; exact HZ.out
          · rw [hst]; exact HLN.out
        case measure => simp [intOf]; omega
      · have hmd : decide (x ∈ (gfold A k (ps.take n)).1) = false := by simpa using hm
        have HM := Lib.hid hm; clear hm
        have hI0 := HI.out
        have hatl : at_ ≤ (gfold A k (ps.take n)).1.length := by rw [← HAT.out]; exact posOf_le _ _
        have hatm : at_ ≤ (gfold A k (ps.take n)).2.length := by rw [hI0.len]; exact hatl
        have hmost := hI0.most
        have hlen2 := hI0.len
        have HATL := Lib.hid hatl; have HATM := Lib.hid hatm
        have HV1 := Lib.hid (own_below (own_below HV.out hbX2.out) HB1.out)
        have HO1 := Lib.hid ((HO.out.below hbX2.out).below HB1.out)
        have HBW1 := Lib.hid (bthen (bthen HBL.out hbX2.out) HB1.out)
        have hsz1 := HBW1.out.size
        have HI1 := Lib.hid (insert_vals (w1.alloc (.cells (cv (x, c3, d3)).toArray 47)) w.heap.size w1.heap.size _ at_ u6 (cvs zs) (cv (x, c3, d3)) (HV1.out.alloc _) (by omega) hatl (by simp; omega) rfl
          47 (cv (x, c3, d3)).toArray (heap_alloc_new w1 _) (fun j q hq => by rw [cell_of_row _ _ _ _ _ _ (heap_alloc_new w1 _)]; simpa using hq) (by intro q hq; exact cvs_one [(x, c3, d3)] q (by simpa [cvs] using hq))
          (fun h => by have := (HV1.out.lt _ h).2; omega) (cvs_one zs))
        clear hI0 hatl hatm hmost hlen2
        go_wp2_with fail
        refine HI1.out.mono ?_
        rintro e w3 ⟨s1, rfl, hs1, hg1, hs1n⟩
        have HS1 := Lib.hid hs1; have HG1 := Lib.hid hg1
        have HO3 := Lib.hid ((HO1.out.below (below1 w1 _)).kept (HV1.out.alloc _) (by decide) (by decide) hg1)
        have HBW3 := Lib.hid ((HBW1.out.alloc hsz1 _).grown hg1 (by simp; omega) (fun g hg => (HV1.out.lt g hg).1))
        have hsz3 := HBW3.out.size
        obtain ⟨os0, k1, k2, k3, k4⟩ := (HO3.out.below (below1 w3 (.cells #[.slice none 0 0] 26)))
        have K1 := Lib.hid k1; have K2 := Lib.hid k2; have K3 := Lib.hid k3; have K4 := Lib.hid k4
        have HI3 := Lib.hid (insert_rows (w3.alloc (.cells #[.slice none 0 0] 26)) w.heap.size w3.heap.size _ at_ u7 os0 [.slice none 0 0] k1 (by have := HI.out.most; have := HI.out.len; omega) HATM.out (by simp; omega) rfl
          26 #[.slice none 0 0] (heap_alloc_new w3 _) (fun j q hq => by rw [cell_of_row _ _ _ _ _ _ (heap_alloc_new w3 _)]; simpa using hq) (by intro q hq; simp at hq; subst hq; rfl)
          (fun h => by have := (HO3.out.lt' h); omega) (fun q hq => by
            obtain ⟨j, hj, rfl⟩ := List.getElem_of_mem hq
            have := k3 j (os0[j]) ((gfold A k (ps.take n)).2[j]'(by omega)) (by simp) (by simp)
            rcases own_cases this with ⟨h, _⟩ | ⟨_, _, h, _⟩ <;> rw [h] <;> rfl))
        clear hs1 hg1 hs1n k1 k2 k3 k4
        go_wp2_with fail
        refine HI3.out.mono ?_
        rintro e w5 ⟨s2, rfl, hs2, hg2, hs2n⟩
        have HLO := Lib.hid (Lists.insert K1.out K2.out K3.out K4.out HATM.out (by simpa [insAt] using hs2) hg2)
        have HVW := Lib.hid ((HS1.out.alloc _).kept hg2 (own_apart (HS1.out.alloc _) K1.out (by decide)))
        have HBW := Lib.hid ((HBW3.out.alloc hsz3 _).grown hg2 (by simp; omega) (fun g hg => (K1.out.lt g hg).1))
        have HLA := Lib.hid (show at_ < (insAt (gfold A k (ps.take n)).2 at_ ([] : List Int)).length by rw [insAt_len _ _ _ HATM.out]; have := HATM.out; omega)
        have HLEN := Lib.hid (show ((insAt (gfold A k (ps.take n)).2 at_ ([] : List Int)).getD at_ []).length ≤ 1000 by rw [List.getD_eq_getElem?_getD, insAt_get _ _ _ HATM.out]; simp)
        have HVW2 := Lib.hid (show w5.ownsRow w.heap.size 47 7 s1 _ (cvs (insAt zs at_ (x, c3, d3))) by rw [cvs_insAt]; exact HVW.out)
        clear HVW
        have HVW := HVW2
        clear HVW2 hs2 hg2 hs2n
        obtain ⟨go, cap, os, u, rfl, hcap, hBgo, l1, l2, l3, l4, hu, hl, hcu⟩ := HLO.out.open HLA.out
        have hul := l3 _ _ _ hu hl
        have HUL := Lib.hid hul
        have h6 : (at_ : Int) < (insAt (gfold A k (ps.take n)).2 at_ ([] : List Int)).length := by have := HLA.out; omega
        have h7 : (0:Int) ≤ at_ := by omega
        have L1 := Lib.hid l1; have L2 := Lib.hid l2; have L3 := Lib.hid l3; have L4 := Lib.hid l4; have HU := Lib.hid hu; have HL := Lib.hid hl
        clear l1 l2 l3 l4 hu hl hul
        have hpl := HLEN.out
        obtain ⟨i0, hi, hz0, hz1, hz2⟩ := info_parts info_int
        have Hi := Lib.hid hi; have Hz0 := Lib.hid hz0; have Hz1 := Lib.hid hz1; have Hz2 := Lib.hid hz2
        clear hi hz0 hz1 hz2
        go_wp2_with (at_builtin; refine wpList_app rfl (.tmp 48) (.tmp 50) 26 rfl w.heap.size 3 i0 (.int .i64 0) 1 8 und_ints Hi.out Hz0.out Hz1.out Hz2.out rfl (by decide) _ _ _ rfl (HUL.out.alloc _) ⟨w5.heap.size, 0, none⟩ 1 1 [.int .i64 p] rfl rfl (cell_one_new _ _ _) (by intro q hq; simp at hq; subst hq; rfl) (by unfold maxLen; omega) (by omega) (by have := HBW.out.size; simp; omega) ?_; intro v' w9 hown hgr hfr; obtain ⟨g9, k9, rfl⟩ := own_shape hown (by omega); obtain ⟨y1, y2⟩ := after_app (L1.out.alloc _) (HUL.out.alloc _) hgr HU.out; have HOWN := Lib.hid hown; have HGR := Lib.hid hgr; have HFR := Lib.hid hfr; clear hown hgr hfr)
        have hgr2 : w5.grownBy w9 u.ownBlock := ⟨HGR.out.os, HGR.out.tape, HGR.out.output, by have := HGR.out.size; simp at this; omega, fun q hq hne => by rw [HGR.out.block q (by simp; omega) hne]; exact Below.heap_alloc _ _ _ hq⟩
        have hfr2 := HFR.out
        have hfr2 : Value.ownBlock (.slice (some ⟨g9, 0, none⟩) (((insAt (gfold A k (ps.take n)).2 at_ ([] : List Int)).getD at_ []).length + 1) k9) = u.ownBlock ∨ ∀ g, Value.ownBlock (.slice (some ⟨g9, 0, none⟩) (((insAt (gfold A k (ps.take n)).2 at_ ([] : List Int)).getD at_ []).length + 1) k9) = some g → w5.heap.size ≤ g := by
          rcases hfr2 with h | h
          · exact .inl h
          · exact .inr fun g hg => by have := h g hg; simp at this; omega
        have hLN := Lists.append (x := (p : Int)) L1.out L2.out L3.out L4.out HU.out HL.out (by simpa [ci] using HOWN.out) hgr2 hfr2
        have HLN := Lib.hid hLN; clear hLN
        have hVN : (w9.setCell ⟨go, at_, none⟩ (.slice (some ⟨g9, 0, none⟩) (((insAt (gfold A k (ps.take n)).2 at_ ([] : List Int)).getD at_ []).length + 1) k9)).ownsRow w.heap.size 47 7 s1 _ _ := ownsRow_setCell_other (HVW.out.kept hgr2 (own_apart HVW.out HUL.out (by decide))) (fun h => by
          have := own_apart HVW.out L1.out (by decide); rw [h] at this; simp [Value.ownBlock] at this) (.slice (some ⟨g9, 0, none⟩) (((insAt (gfold A k (ps.take n)).2 at_ ([] : List Int)).getD at_ []).length + 1) k9)
        have HVN := Lib.hid hVN; clear hVN
        have hBN : Below w.heap.size w (w9.setCell ⟨go, at_, none⟩ (.slice (some ⟨g9, 0, none⟩) (((insAt (gfold A k (ps.take n)).2 at_ ([] : List Int)).getD at_ []).length + 1) k9)) := (HBW.out.grown hgr2 (by have := HBW.out.size; omega) (fun g hg => (HUL.out.lt g hg).1)).setCell hBgo _
        have HBN := Lib.hid hBN; clear hBN hgr2 hfr2
        go_roundw
        case rel =>
          have hst : gfold A k (ps.take (n + 1)) = (insAt (gfold A k (ps.take n)).1 at_ x, insAt (gfold A k (ps.take n)).2 at_ [(p : Int)]) := by
            rw [List.take_succ_eq_append_getElem hlt, gfold_snoc, ← HP.out]; unfold gstep
            rw [← HXE.out, if_neg HM.out, HAT.out]
          have hI2 : GInv A (gfold A k (ps.take (n + 1))) (n + 1) := by
            rw [List.take_succ_eq_append_getElem hlt, gfold_snoc, ← HP.out]; exact HI.out.step hpA (by rw [← HXE.out]; exact hx)
          refine ⟨n + 1, insAt zs at_ (x, c3, d3), by omega, by go_num, ?_, ?_, ?_, hI2, HBN.out⟩
          · rw [hst]; simp only; rw [insAt_len _ _ _ HATL.out]; exact HVN.out
          · rw [hst, map_insAt, HZ.out]
          · rw [hst]
            have e1 : (insAt (gfold A k (ps.take n)).2 at_ ([] : List Int)).getD at_ [] = [] := by rw [List.getD_eq_getElem?_getD, insAt_get _ _ _ HATM.out]; simp
            have e2 : (insAt (gfold A k (ps.take n)).2 at_ ([] : List Int)).set at_ ([] ++ [(p : Int)]) = insAt (gfold A k (ps.take n)).2 at_ [(p : Int)] := by
              have hl : ((gfold A k (ps.take n)).2.take at_).length = at_ := by have := HATM.out; simp; omega
              unfold insAt; rw [List.set_append_right _ _ (by omega), hl, Nat.sub_self]; rfl
            have := HLN.out
            have e3 : (insAt (gfold A k (ps.take n)).2 at_ ([] : List Int)).set at_ ((insAt (gfold A k (ps.take n)).2 at_ ([] : List Int)).getD at_ [] ++ [(p : Int)]) = insAt (gfold A k (ps.take n)).2 at_ [(p : Int)] := by rw [e1]; exact e2
            rw [e3] at this
            exact this
        case measure => simp [intOf]; omega
    · clear hv hz ho hI hbel
      go_wp2
      go_ret2
      have e : ps.take n = ps := List.take_of_length_le (by omega)
      have h1 := HV.out; have h2 := HZ.out; have h3 := HO.out
      rw [e] at h1 h2 h3
      exact ⟨_, _, zs, rfl, h1, h2, h3, HBL.out⟩
end Go.Proofs.YtoiemkifgdnhaaaGreatDoor
