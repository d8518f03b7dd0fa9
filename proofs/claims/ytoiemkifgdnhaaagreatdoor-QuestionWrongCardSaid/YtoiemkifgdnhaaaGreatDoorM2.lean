/- Plans by the reference: the walk. Conditions: 12 right programs and 10 inputs at most.
  Making a plan, by the reference: the walk. Conditions: each value is one of the eleven.
  QuestionMakes: the walk. No conditions. -/
import Derived.Test.YtoiemkifgdnhaaaGreatDoorM1
import Derived.Test.YtoiemkifgdnhaaaGreatDoorK1
import Derived.Test.YtoiemkifgdnhaaaGreatDoorL14
namespace Go.Proofs.YtoiemkifgdnhaaaGreatDoor
open Go Go.RowKit
def PlanPost (qs : List Ask) (w : World) (e : Ending) (w' : World) : Prop := ∃ v os, e = .returned v ∧ AsksAt w' w.heap.size v qs os ∧ Below w.heap.size w w'
def PlanR (A : List (List Nat)) (m s : Nat) : Prop := ∀ (w : World) (a l : Value) (n : Nat), n + 20 * (bitsOf s).length ≤ 1000 → ValRows w a A → Ints w l (pInts (bitsOf s)) → Calls Tryz.prog 41 #[a, l, .int .i64 n] w (PlanPost (planF A m 13 s n) w)
/-- What stands behind k groups. -/
structure PInv (A : List (List Nat)) (m n x T B2 : Nat) (w w3 : World) (gs : List (Nat × Nat)) (k : Nat) (rv va vn : Value) (os : List (Nat × Value × Value)) (zs : List ZV) (wr : World) : Prop where
  blk : wr.heap[T]? = some (.cells #[.int .i64 x, va, vn] 59)
  zv : zs.map (·.1) = (gs.take k).map (·.1)
  ov : wr.ownsRow B2 47 7 va k (cvs zs)
  oi : wr.ownsRow B2 3 1 vn k (ci (stepF A m 12 n (gs.take k)).1)
  asks : AsksAt wr B2 rv (stepF A m 12 n (gs.take k)).2 os
  f1 : ∀ (i : Nat) (u : Value) (g : Nat), (os.map (·.2.1))[i]? = some u → u.ownBlock = some g → va.ownBlock ≠ some g
  f2 : ∀ (i : Nat) (u : Value) (g : Nat), (os.map (·.2.2))[i]? = some u → u.ownBlock = some g → vn.ownBlock ≠ some g
  kt : Kt T w3 wr
  bl : Below w.heap.size w wr
theorem own_news {w : World} {B : Nat} {e : TypeId} {s n mc : Nat} {ma : Option Addr} {xs : List Value} (h : w.ownsRow B e s (.slice ma n mc) n xs) : (ma = none → n = 0) ∧ ∀ ad, ma = some ad → ∀ j u, xs[j]? = some u → w.cell? (ad.add j) = some u := by
  rcases own_cases h with ⟨h1, h2⟩ | ⟨g, cap, h1, _⟩
  · refine ⟨fun _ => h2, fun ad had => ?_⟩
    injection h1 with a1
    rw [a1] at had; cases had
  · injection h1 with a1 a2 a3
    subst a1; subst a3
    refine ⟨fun h => (by cases h), fun ad had => ?_⟩
    cases had
    exact h.cells rfl
theorem AsksAt.cell1 {w : World} {B : Nat} {v : Value} {qs : List Ask} {os : List (Nat × Value × Value)} (h : AsksAt w B v qs os) : ∀ u ∈ os.flatMap askC, u.oneCell' = true := by
  intro u hu
  obtain ⟨o, ho, hu⟩ := List.mem_flatMap.1 hu
  obtain ⟨i, hi, rfl⟩ := List.getElem_of_mem ho
  obtain ⟨_, ⟨ys, _, k3⟩, k4⟩ := h.inn i os[i] (qs[i]'(by rw [← h.len]; exact hi)) (List.getElem?_eq_getElem hi) (List.getElem?_eq_getElem (by rw [← h.len]; exact hi))
  obtain ⟨_, _, e1⟩ := own_slice k3
  obtain ⟨_, _, e2⟩ := own_slice k4
  simp only [askC, List.mem_cons, List.not_mem_nil, or_false] at hu
  rcases hu with rfl | rfl | rfl
  · rfl
  · rw [e1]; rfl
  · rw [e2]; rfl
/-- The same behind the value of a group. -/
structure PMid (A : List (List Nat)) (m n x T B2 : Nat) (w w3 : World) (gs : List (Nat × Nat)) (k : Nat) (rv va vn : Value) (os : List (Nat × Value × Value)) (zs : List ZV) (wr : World) : Prop where
  blk : wr.heap[T]? = some (.cells #[.int .i64 x, va, vn] 59)
  ov : wr.ownsRow B2 47 7 va (k + 1) (cvs zs)
  oi : wr.ownsRow B2 3 1 vn k (ci (stepF A m 12 n (gs.take k)).1)
  asks : AsksAt wr B2 rv (stepF A m 12 n (gs.take k)).2 os
  f1 : ∀ (i : Nat) (u : Value) (g : Nat), (os.map (·.2.1))[i]? = some u → u.ownBlock = some g → va.ownBlock ≠ some g
  f2 : ∀ (i : Nat) (u : Value) (g : Nat), (os.map (·.2.2))[i]? = some u → u.ownBlock = some g → vn.ownBlock ≠ some g
  kt : Kt T w3 wr
  bl : Below w.heap.size w wr
theorem PInv.mid {A : List (List Nat)} {m n x T B2 k g9 cap9 : Nat} {w w3 wr wU w9 : World} {gs : List (Nat × Nat)} {rv va vn : Value} {os : List (Nat × Value × Value)} {zs : List ZV} {z : ZV} (h : PInv A m n x T B2 w w3 gs k rv va vn os zs wr)
    (hT : T < B2) (hwT : w.heap.size ≤ T) (hB : B2 = w3.heap.size) (hbU : Below wr.heap.size wr wU) (hown : w9.ownsRow B2 47 7 (.slice (some ⟨g9, 0, none⟩) (k + 1) cap9) (k + 1) (cvs zs ++ cv z)) (hgr : wU.grownBy w9 va.ownBlock) (hat : va.ownBlock = some g9 ∨ g9 = wU.heap.size) :
    PMid A m n x T B2 w w3 gs k rv (.slice (some ⟨g9, 0, none⟩) (k + 1) cap9) vn os (zs ++ [z]) (w9.setCell ⟨T, 1, none⟩ (.slice (some ⟨g9, 0, none⟩) (k + 1) cap9)) := by
  have hsz := h.kt.size
  have hszU := hbU.size
  have hovU := own_below h.ov hbU
  have hb9 : Below w3.heap.size wr w9 := (hbU.mono hsz).grown hgr (by omega) (fun g hg => by have := (h.ov.lt g hg).1; omega)
  have hne : ∀ g, va.ownBlock = some g → g ≠ T := fun g hg => by have := (h.ov.lt g hg).1; omega
  have hbl : Below w.heap.size w w9 := h.bl.trans (hb9.mono (by omega))
  have hb : w9.heap[T]? = some (.cells #[.int .i64 x, va, vn] 59) := (hb9.block T (by omega)).trans h.blk
  refine ⟨heap_setCell_same w9 T 1 _ _ _ hb, ?_, ?_, ?_, ?_, h.f2, (h.kt.below hb9).set _, hbl.setCell hwT _⟩
  · rw [cvs_snoc]
    exact ownsRow_setCell_other hown (fun e => by have := (hown.lt T e).1; omega) _
  · have h1 := (own_below h.oi hbU).kept hgr (own_apart (own_below h.oi hbU) hovU (by decide))
    exact ownsRow_setCell_other h1 (fun e => by have := (h1.lt T e).1; omega) _
  · exact ((h.asks.below hbU).keptV hovU hgr h.f1).setlow hT
  · intro i u g hu hg e
    have e2 : g9 = g := Option.some.inj e
    rcases hat with h2 | h2
    · exact h.f1 i u g hu hg (by rw [h2, e2])
    · have := (h.asks.lt1 hu hg).2; omega
theorem PMid.below {A : List (List Nat)} {m n x T B2 k : Nat} {w w3 wr w' : World} {gs : List (Nat × Nat)} {rv va vn : Value} {os : List (Nat × Value × Value)} {zs : List ZV} (h : PMid A m n x T B2 w w3 gs k rv va vn os zs wr) (hb : Below wr.heap.size wr w') :
    PMid A m n x T B2 w w3 gs k rv va vn os zs w' :=
  ⟨(hb.block T (Array.getElem?_eq_some_iff.1 h.blk).1).trans h.blk, own_below h.ov hb, own_below h.oi hb, h.asks.below hb, h.f1, h.f2, h.kt.below (hb.mono h.kt.size), h.bl.trans (hb.mono h.bl.size)⟩
/-- The rest of a round: the place is put behind, the group's own questions are put behind. -/
theorem PMid.fin {A : List (List Nat)} {m n x T B2 k : Nat} {w w3 W w10 w11 w12 : World} {ob : Obj} {gs : List (Nat × Nat)} {rv va vn v10 v11 v12 : Value} {os os10 : List (Nat × Value × Value)} {zs : List ZV} {qs2 : List Ask} {z : Int} (h : PMid A m n x T B2 w w3 gs k rv va vn os zs W)
    (hT : T < B2) (hwT : w.heap.size ≤ T) (hB : B2 = w3.heap.size) (hb10 : Below W.heap.size W w10) (hmore : AsksAt w10 W.heap.size v10 qs2 os10)
    (hown11 : w11.ownsRow B2 3 1 v11 (k + 1) (ci (stepF A m 12 n (gs.take k)).1 ++ [.int .i64 z])) (hgr11 : (w10.alloc ob).grownBy w11 vn.ownBlock) (hat11 : v11.ownBlock = vn.ownBlock ∨ ∀ g, v11.ownBlock = some g → (w10.alloc ob).heap.size ≤ g)
    (hown12 : w12.ownsRow B2 59 3 v12 ((stepF A m 12 n (gs.take k)).2.length + qs2.length) (os.flatMap askC ++ os10.flatMap askC)) (hgr12 : (w11.setCell ⟨T, 2, none⟩ v11).grownBy w12 rv.ownBlock)
    (hz : zs.map (·.1) = (gs.take (k + 1)).map (·.1)) (hst : stepF A m 12 n (gs.take (k + 1)) = ((stepF A m 12 n (gs.take k)).1 ++ [z], (stepF A m 12 n (gs.take k)).2 ++ qs2)) :
    PInv A m n x T B2 w w3 gs (k + 1) v12 va v11 (os ++ os10) zs w12 := by
  have hm := (h.below hb10).below (below1 w10 ob)
  have hszW : w3.heap.size ≤ W.heap.size := h.kt.size
  have hsz10 := hb10.size
  have hmoreB : AsksAt (w10.alloc ob) B2 v10 qs2 os10 := (hmore.below (below1 w10 ob)).base (by omega)
  have hszA : w3.heap.size ≤ (w10.alloc ob).heap.size := hm.kt.size
  -- the places' row has grown
  have hb11 : Below w3.heap.size (w10.alloc ob) w11 := (Below.refl _ _).grown hgr11 hszA (fun g hg => by have := (hm.oi.lt g hg).1; omega)
  have a11 : AsksAt w11 B2 rv (stepF A m 12 n (gs.take k)).2 os := hm.asks.keptI hm.oi hgr11 hm.f2
  have hvn10 : ∀ (i : Nat) (u : Value) (g : Nat), (os10.map (·.2.2))[i]? = some u → u.ownBlock = some g → vn.ownBlock ≠ some g := by
    intro i u g hu hg e
    have h1 := (hmore.lt2 hu hg).1
    have h2 := (h.oi.lt g e).2
    omega
  have m11 : AsksAt w11 B2 v10 qs2 os10 := hmoreB.keptI hm.oi hgr11 hvn10
  have ov11 := hm.ov.kept hgr11 (own_apart hm.ov hm.oi (by decide))
  have blk11 : w11.heap[T]? = some (.cells #[.int .i64 x, va, vn] 59) := (hb11.block T (by omega)).trans hm.blk
  have kt11 := hm.kt.below hb11
  have bl11 : Below w.heap.size w w11 := hm.bl.trans (hb11.mono (by omega))
  -- the cell is stored
  have a12 := a11.setlow (o := 2) (u := v11) hT
  have m12 := m11.setlow (o := 2) (u := v11) hT
  have ov12 : (w11.setCell ⟨T, 2, none⟩ v11).ownsRow B2 47 7 va (k + 1) (cvs zs) := ownsRow_setCell_other ov11 (fun e => by have := (ov11.lt T e).1; omega) v11
  have oi12 : (w11.setCell ⟨T, 2, none⟩ v11).ownsRow B2 3 1 v11 (k + 1) (ci (stepF A m 12 n (gs.take k)).1 ++ [.int .i64 z]) := ownsRow_setCell_other hown11 (fun e => by have := (hown11.lt T e).1; omega) v11
  have blk12 := heap_setCell_same w11 T 2 _ _ v11 blk11
  have kt12 := kt11.set (o := 2) v11
  have bl12 : Below w.heap.size w (w11.setCell ⟨T, 2, none⟩ v11) := bl11.setCell hwT _
  -- the questions are put behind
  have hb12 : Below w3.heap.size (w11.setCell ⟨T, 2, none⟩ v11) w12 := (Below.refl _ _).grown hgr12 kt12.size (fun g hg => by have := (a12.own.lt g hg).1; omega)
  have cross1 : ∀ (i j : Nat) (u u' : Value) (g : Nat), (os.map (·.2.1))[i]? = some u → (os10.map (·.2.1))[j]? = some u' → u.ownBlock = some g → u'.ownBlock ≠ some g := by
    intro i j u u' g hu hu' hg hg'
    have h1 := (h.asks.lt1 hu hg).2
    have h2 := (hmore.lt1 hu' hg').1
    omega
  have cross2 : ∀ (i j : Nat) (u u' : Value) (g : Nat), (os.map (·.2.2))[i]? = some u → (os10.map (·.2.2))[j]? = some u' → u.ownBlock = some g → u'.ownBlock ≠ some g := by
    intro i j u u' g hu hu' hg hg'
    have h1 := (h.asks.lt2 hu hg).2
    have h2 := (hmore.lt2 hu' hg').1
    omega
  have hj := a12.join m12 cross1 cross2 hgr12 hown12
  refine ⟨(hb12.block T (by omega)).trans blk12, hz, ov12.kept hgr12 (own_apart ov12 a12.own (by decide)), ?_, by rw [hst]; exact hj, ?_, ?_, kt12.below hb12, bl12.trans (hb12.mono (by omega))⟩
  · rw [hst]
    have := oi12.kept hgr12 (own_apart oi12 a12.own (by decide))
    simpa [ci] using this
  · intro i u g hu hg e
    rw [List.map_append] at hu
    by_cases hi : i < (os.map (·.2.1)).length
    · rw [List.getElem?_append_left hi] at hu; exact h.f1 i u g hu hg e
    · rw [List.getElem?_append_right (by omega)] at hu
      have h1 := (hmore.lt1 hu hg).1
      have h2 := (h.ov.lt g e).2
      omega
  · intro i u g hu hg e
    have hnew : ∀ (os' : List (Nat × Value × Value)) (j : Nat), (os'.map (·.2.2))[j]? = some u → (vn.ownBlock ≠ some g) → g < (w10.alloc ob).heap.size → False := by
      intro os' j hu' hne hlt
      rcases hat11 with h2 | h2
      · exact hne (by rw [← h2]; exact e)
      · have := h2 g e; omega
    rw [List.map_append] at hu
    by_cases hi : i < (os.map (·.2.2)).length
    · rw [List.getElem?_append_left hi] at hu
      exact hnew os i hu (h.f2 i u g hu hg) (hm.asks.lt2 hu hg).2
    · rw [List.getElem?_append_right (by omega)] at hu
      exact hnew os10 _ hu (hvn10 _ u g hu hg) (hmoreB.lt2 hu hg).2
set_option maxRecDepth 100000 in
set_option maxHeartbeats 4000000 in
theorem planR_step (A : List (List Nat)) (m s : Nat) (hok : Ok A m) (hs : s < 2 ^ A.length) (hP : ∀ t, t < 2 ^ A.length → (bitsOf t).length < (bitsOf s).length → PlanR A m t) : PlanR A m s := by
  intro w a l n hn ha hl
  have HA := Lib.hid ha; have HL := Lib.hid hl; have HOK := Lib.hid hok; have HS := Lib.hid hs; have HP := Lib.hid hP
  obtain ⟨ao, ac, rfl, ha1⟩ := ha.1.open
  obtain ⟨lo, lc, rfl, hl1⟩ := hl.1.open
  have ha2 := ha.2; have hl2 := hl.2.1
  rw [pInts_len] at *
  have hb12 := bits_len s
  have hm10 := hok.m10
  obtain ⟨i0, hi, hz0, hz1, hz2⟩ := info_parts info_int
  have Hi := Lib.hid hi; have Hz0 := Lib.hid hz0; have Hz1 := Lib.hid hz1; have Hz2 := Lib.hid hz2
  obtain ⟨j0, ji, jz0, jz1, jz2⟩ := info_parts info_value
  have Ji := Lib.hid ji; have Jz0 := Lib.hid jz0; have Jz1 := Lib.hid jz1; have Jz2 := Lib.hid jz2
  obtain ⟨q0, qi, qz0, qz1, qz2⟩ := info_parts info_ask
  have Qi := Lib.hid qi; have Qz0 := Lib.hid qz0; have Qz1 := Lib.hid qz1; have Qz2 := Lib.hid qz2
  clear ha hl hok hs hP hi hz0 hz1 hz2 ji jz0 jz1 jz2 qi qz0 qz1 qz2
  obtain ⟨PF, hPF⟩ : ∃ PF, PF = planF A m 13 s n := ⟨_, rfl⟩
  rw [← hPF]
  have HPF := Lib.hid hPF
  clear hPF
  go_enter Tryz.func41, Tryz.ntmps41
  go_wp2_with fail
  refine (depthR_call A m HOK.out s HS.out _ _ _ HA.out HL.out).mono ?_
  rintro e w1 ⟨rfl, hb1⟩
  have hdl := dep_le A m s
  obtain ⟨d, hd⟩ : ∃ d, d = dep A m s := ⟨_, rfl⟩
  rw [← hd] at hdl ⊢
  have HD := Lib.hid hd
  have HVA := Lib.hid (HA.out.mono hb1); have HVL := Lib.hid (HL.out.mono hb1); have HB1 := Lib.hid hb1
  clear hd hb1
  by_cases hd0 : d = 0
  · have e0 : ((d : Int) == 0) = true := by simp [hd0]
    have hpf : PF = [] := by rw [HPF.out]; exact planF_zero _ _ _ _ _ (by rw [← HD.out]; exact hd0)
    go_wp2_with fail
    go_ret
    exact ⟨_, [], rfl, by rw [hpf]; exact AsksAt.nil _ _, HB1.out⟩
  · have e0 : ((d : Int) == 0) = false := by rw [beq_eq_false_iff_ne]; omega
    obtain ⟨hi1, hi2, hi3, hi4⟩ := inp_spec (A := A) (m := m) (s := s) (by rw [← HD.out]; exact hd0)
    obtain ⟨x, hx⟩ : ∃ x, x = inp A m s := ⟨_, rfl⟩
    rw [← hx, ← HD.out] at hi2
    rw [← hx] at hi1 hi4
    rw [← hx, ← HD.out] at hi3
    have HX := Lib.hid hx; have HI2 := Lib.hid hi2; have HI3 := Lib.hid hi3
    have hpf : PF = (x, (divS A x s).map (·.1), (stepF A m 12 n (divS A x s)).1) :: (stepF A m 12 n (divS A x s)).2 := by
      rw [HPF.out, planF_succ _ _ _ _ _ (by rw [← HD.out]; exact hd0), ← hx]
    have HPFS := Lib.hid hpf
    clear hx hi2 hi3 hpf
    go_wp2_with fail
    go_loopw [8] (fun i wr => ∃ k : Nat, k ≤ x ∧ i = .int .i64 k ∧ Below w1.heap.size w1 wr) (fun i _ => x - (intOf i).toNat)
    case atStart => exact ⟨0, by omega, rfl, Below.refl _ _⟩
    case round =>
      obtain ⟨k, hk, rfl, hb⟩ := hrel
      have HB := Lib.hid hb
      have hva := HVA.out.mono hb; have hvl := HVL.out.mono hb
      have HVA2 := Lib.hid hva; have HVL2 := Lib.hid hvl
      clear hb hva hvl
      go_wp2_with fail
      refine (afterR_call A m k s _ _ _ HVA2.out HVL2.out HOK.out (by omega) HS.out (fun t ht _ => depthR_call A m HOK.out t ht)).mono ?_
      rintro e w2 ⟨rfl, hb2⟩
      have HB2 := Lib.hid (bthen HB.out hb2)
      clear hb2
      by_cases hkx : k < x
      · have e1 : ((aft A m k s : Int) != d) = true := by have := HI3.out k hkx; simp; omega
        have hal := aft_le A m k s
        obtain ⟨af, haf⟩ : ∃ af, af = aft A m k s := ⟨_, rfl⟩
        rw [← haf] at e1 hal ⊢
        clear haf
        go_wp2_with fail
        exact ⟨⟨k + 1, by omega, by go_num, HB2.out⟩, by simp [intOf]; omega⟩
      · obtain rfl : k = x := by omega
        rw [HI2.out]
        have hba := bthen HB1.out HB2.out
        have HVA3 := Lib.hid (HVA.out.mono HB2.out); have HVL3 := Lib.hid (HVL.out.mono HB2.out); have HBA := Lib.hid hba
        clear hba
        have e1 : ((d : Int) != d) = false := by simp
        go_wp2_with fail
        refine (Split_call _ _ _ A (bitsOf s) k m (HVA3.out.mono (below1 _ _)) (HVL3.out.mono (below1 _ _)) (fun l hl => (HOK.out.row l hl).1) hi1 (fun p hp => bits_lt_pow HS.out hp) (by omega)).mono ?_
        rintro e w3 ⟨o3, rfl, hl3, hb3⟩
        obtain ⟨T, hT⟩ : ∃ T, T = w2.heap.size := ⟨_, rfl⟩
        have hbk3 : w3.heap[T]? = some (.cells #[.int .i64 k, .slice none 0 0, .slice none 0 0] 59) := by rw [hT]; exact (hb3.block w2.heap.size (by simp)).trans (heap_alloc_new w2 _)
        have hT3 : T < w3.heap.size := (Array.getElem?_eq_some_iff.1 hbk3).1
        have hl3 := hl3.base (b' := T + 1) (by rw [hT]; simp)
        have hwT : w.heap.size ≤ T := by rw [hT]; exact HBA.out.size
        have hbl3 : Below w.heap.size w w3 := bstep HBA.out hb3
        rw [← hT]
        obtain ⟨gs, hgs⟩ : ∃ gs, gs = divS A k s := ⟨_, rfl⟩
        have hlaw := gfold_law A k (bitsOf s)
        have hfst := divS_fst A k s
        have hsnd := divS_snd A k s
        rw [← hgs] at hfst hsnd hi4
        obtain ⟨SF, hSF⟩ : ∃ SF, SF = gfold A k (bitsOf s) := ⟨_, rfl⟩
        rw [← hSF] at hl3 hlaw hfst hsnd
        have hsl : SF.2.length = gs.length := by rw [hsnd, List.length_map]
        have hsl1 : SF.1.length = gs.length := by rw [hfst, List.length_map]
        have hg12 : gs.length ≤ 12 := by rw [hgs]; exact Nat.le_trans (divS_len _ _ _) (bits_len _)
        obtain ⟨oa, oc, rfl⟩ := hl3.slice
        rw [hsl]
        have HGS := Lib.hid hgs; have HLAW := Lib.hid hlaw; have HFST := Lib.hid hfst; have HSND := Lib.hid hsnd; have HL3 := Lib.hid hl3; have HBK3 := Lib.hid hbk3; have HT := Lib.hid hT; have HBL3 := Lib.hid hbl3
        clear hgs hlaw hfst hsnd hl3 hbk3 hT hbl3 hb3 hSF
        go_wp2_with fail
        go_loopw [10, 12, 13] (fun rv i _ wr => ∃ (t : Nat) (va vn : Value) (os : List (Nat × Value × Value)) (zs : List ZV), t ≤ gs.length ∧ i = .int .i64 t ∧ PInv A m n k T w3.heap.size w w3 gs t rv va vn os zs wr) (fun _ i _ _ => gs.length - (intOf i).toNat)
        case atStart => exact ⟨0, .slice none 0 0, .slice none 0 0, [], [], by omega, rfl, HBK3.out, rfl, World.ownsRow_nil _ _ _ _, World.ownsRow_nil _ _ _ _, AsksAt.nil _ _, fun i u g h => by simp at h, fun i u g h => by simp at h, Kt.refl _ _, HBL3.out⟩
        case round =>
          obtain ⟨t, va, vn, os, zs, ht, rfl, hI⟩ := hrel
          have HI := Lib.hid hI
          have hTr : T < wr.heap.size := (Array.getElem?_eq_some_iff.1 hI.blk).1
          have et0 : wr.cell? ⟨T, 0, none⟩ = some (.int .i64 k) := cell_of_row _ _ _ _ _ _ hI.blk
          have et1 : wr.cell? ⟨T, 1, none⟩ = some va := cell_of_row _ _ _ _ _ _ hI.blk
          have et2 : wr.cell? ⟨T, 2, none⟩ = some vn := cell_of_row _ _ _ _ _ _ hI.blk
          have ft : ∀ j, wr.frozen? ⟨T, j, none⟩ = false := fun j => frozen_cells hI.blk j
          have hsz3 := hI.kt.size
          obtain ⟨ra, rc, rfl⟩ := own_slice hI.asks.own
          obtain ⟨R, hR⟩ : ∃ R, R = (stepF A m 12 n (gs.take t)).2.length := ⟨_, rfl⟩
          have hR12 : R ≤ 12 := by
            rw [hR, HGS.out]
            exact Nat.le_trans (stepF_le A m 12 n s k t (by rw [← HGS.out]; exact ht)) (bits_len s)
          rw [← hR]
          have HR := Lib.hid hR
          clear hR
          by_cases htl : t < gs.length
          · have s1 : (t:Int) < gs.length := by omega
            have s0 : 0 ≤ (t:Int) := by omega
            obtain ⟨go, cap, us, u, hoe, _, hBgo, l1, _, l3, _, hu, hl, hcu3⟩ := HL3.out.open (show t < SF.2.length by omega)
            simp only [Value.slice.injEq] at hoe
            obtain ⟨rfl, _, rfl⟩ := hoe
            have hgo3 : go < w3.heap.size := HL3.out.lt' rfl
            have hgoT : go ≠ T := by omega
            have hcu := (World.cell?_of_block (a := ⟨go, t, none⟩) (hI.kt.blk go hgo3 hgoT)).trans hcu3
            have hul3 := l3 _ _ _ hu hl
            have hul := own_kt hul3 hI.kt (Nat.lt_succ_self T)
            obtain ⟨g, hg⟩ : ∃ g, g = gs[t] := ⟨_, rfl⟩
            have hgm : g ∈ gs := by rw [hg]; exact List.getElem_mem _
            have hge : SF.2.getD t [] = pInts (bitsOf g.2) := by rw [HSND.out, List.getD_eq_getElem?_getD, List.getElem?_map, List.getElem?_eq_getElem htl, ← hg]; rfl
            obtain ⟨q, rest, hqe, hqm, hqv⟩ := HLAW.out.head (show t < SF.1.length by omega)
            have hqy : gval A k q = g.1 := by rw [hqv, HFST.out, List.getD_eq_getElem?_getD, List.getElem?_map, List.getElem?_eq_getElem htl, ← hg]; rfl
            have hqA : q < A.length := bits_lt_pow HS.out hqm
            have hcard : (bitsOf g.2).length < (bitsOf s).length := card_lt (HGS.out ▸ hgm) (by rw [← HGS.out]; exact hi4)
            have hset : g.2 < 2 ^ A.length := set_lt HS.out (HGS.out ▸ hgm)
            obtain ⟨ql, hql⟩ : ∃ ql, ql = (bitsOf g.2).length := ⟨_, rfl⟩
            have hql2 : (SF.2.getD t []).length = ql := by rw [hge, pInts_len, hql]
            have hql0 : 0 < ql := by rw [← hql2, hqe]; simp
            have hq1 : (0 : Int) < ql := by omega
            rw [hql2] at hul
            obtain ⟨gu, cu, rfl⟩ := own_shape hul hql0
            have hcq : wr.cell? ⟨gu, 0, none⟩ = some (.int .i64 q) := by rw [hul.cellAt 0 (by omega), hqe]; rfl
            have hguB := (hul.lt gu rfl).1
            have hguT : gu ≠ T := by omega
            have hIu : ∀ w', Kt T w3 w' → Ints w' (.slice (some ⟨gu, 0, none⟩) ql cu) (pInts (bitsOf g.2)) := by
              intro w' hkt
              have h := hul3
              rw [hql2] at h
              have h := own_kt h hkt (Nat.lt_succ_self T)
              rw [hge] at h
              have hb := bits_len g.2
              have := own_ints (n := ql) (xs := pInts (bitsOf g.2)) h (by rw [pInts_len]; omega) (pInts_ok (n := A.length) (fun p hp => bits_lt_pow hset hp) (by have := HOK.out.len; omega))
              exact this
            have hgu3 : gu < w3.heap.size := (hul3.lt gu rfl).2
            obtain ⟨b2, o2, rfl, g2, ra2, rc2, t0, t1⟩ := HA.out.1.at hqA
            have hrl2 : (A.getD q []).length = m := (HOK.out.row _ (by rw [List.getD_eq_getElem?_getD, List.getElem?_eq_getElem hqA]; exact List.getElem_mem _)).1
            rw [hrl2] at t0 t1
            obtain ⟨b6, o6, rfl, g6, c6, d6, y0, y1, y2, y3, y4, y5, y6⟩ := t1.1.at (show k < (A.getD q []).length by rw [hrl2]; exact hi1)
            simp only [Nat.mul_one] at t0
            rw [show (A.getD q []).getD k 0 = g.1 from hqy] at y0 y1 y2 y4
            have T0 := (olds HI.out.bl _ _ g2).trans t0
            have Y0 := (olds HI.out.bl _ _ g6).trans y0; have Y1 := (olds HI.out.bl _ _ g6).trans y1; have Y2 := (olds HI.out.bl _ _ g6).trans y2; have Y3 := (olds HI.out.bl _ _ g6).trans y3
            have Y4 := (olds HI.out.bl _ _ g6).trans y4; have Y5 := (olds HI.out.bl _ _ g6).trans y5; have Y6 := (olds HI.out.bl _ _ g6).trans y6
            have hwB : w.heap.size < w3.heap.size := by omega
            have z2 : b2 < w3.heap.size := by omega
            have z6 : b6 < w3.heap.size := by omega
            have x2 : b2 ≠ T := by omega
            have x6 : b6 ≠ T := by omega
            have e3 : (q : Int) < A.length := by omega
            have e4 : 0 ≤ (q : Int) := by omega
            have e5 : (k : Int) < m := by omega
            have e6 : 0 ≤ (k : Int) := by omega
            obtain ⟨y, hy⟩ : ∃ y, y = g.1 := ⟨_, rfl⟩
            rw [← hy] at Y0 Y1 Y2 Y4
            have HIU := Lib.hid hIu; have HG := Lib.hid hg; have HY := Lib.hid hy; have HCARD := Lib.hid hcard; have HSET := Lib.hid hset; have HQL := Lib.hid hql
            obtain ⟨va_, vc, rfl⟩ := own_slice hI.ov
            obtain ⟨na, nc, rfl⟩ := own_slice hI.oi
            have hgl2 := bits_len g.2
            have HOV := Lib.hid hI.ov
            clear hI l1 l3 hu hl hul hul3 hcu3 hg hgm hge hqe hqm hqv hqy hcard hset hql hql2 hIu t0 t1 hrl2 y0 y1 y2 y3 y4 y5 y6 hy
            go_wp2_with fail
            refine wp_region_held_drew (S := (fun w' => ∀ b o, b < w3.heap.size → b ≠ T → w'.cell? ⟨b, o, none⟩ = wr.cell? ⟨b, o, none⟩)) (by kernel_rfl) ?_ (fun hHeld => ?_)
            · (first | (refine fun b o hb _ => olds (Below.mono (B := wr.heap.size) ?_ hsz3) b o hb; (repeat (first | with_reducible exact Below.refl _ _ | with_reducible assumption | with_reducible refine Below.drew ?_ | with_reducible refine Below.alloc ?_ (by first | omega | (simp; done) | (simp; omega)) _ | with_reducible refine Below.setCell ?_ (by first | omega | (simp; done) | (simp; omega)) _)); done) | (refine fun b o hb _ => olds ?_ b o hb; (repeat (first | with_reducible exact Below.refl _ _ | with_reducible assumption | with_reducible refine Below.drew ?_ | with_reducible refine Below.alloc ?_ (by first | omega | (simp; done) | (simp; omega)) _ | with_reducible refine Below.setCell ?_ (by first | omega | (simp; done) | (simp; omega)) _)); done) | exact fun b o hb hne => (World.cell?_of_block (Below.heap_setCell _ _ _ _ hne)).trans (olds hb9 b o hb))
            refine wpAnyH_take (i := 0) (v := ?_) rfl (by kernel_rfl) (by kernel_rfl) (by kernel_rfl) (fun _ _ _ h => h) (Or.inl ⟨by rfl, ?_⟩) (by assumption) ?_
            rotate_left
            · intro w hSw; (try dsimp only [List.getElem_toArray, List.getElem_cons_succ, List.getElem_cons_zero] at hSw ⊢); go_simp; (try with_reducible rfl)
            (try dsimp only [List.getElem_toArray, List.getElem_cons_succ, List.getElem_cons_zero]); (try simp only [Act.put, List.setIfInBounds_toArray, List.set_cons_zero, List.set_cons_succ])
            refine wpAnyH_take (i := 2) (v := ?_) rfl (by kernel_rfl) (by kernel_rfl) (by kernel_rfl) (fun _ _ _ h => h) (Or.inl ⟨by rfl, ?_⟩) (by assumption) ?_
            rotate_left
            · intro w hSw; (try dsimp only [List.getElem_toArray, List.getElem_cons_succ, List.getElem_cons_zero] at hSw ⊢); go_simp; (try with_reducible rfl)
            (try dsimp only [List.getElem_toArray, List.getElem_cons_succ, List.getElem_cons_zero]); (try simp only [Act.put, List.setIfInBounds_toArray, List.set_cons_zero, List.set_cons_succ])
            refine wpAnyH_take (i := 3) (v := ?_) rfl (by kernel_rfl) (by kernel_rfl) (by kernel_rfl) (fun _ _ _ h => h) (Or.inl ⟨by rfl, ?_⟩) (by assumption) ?_
            rotate_left
            · intro w hSw; (try dsimp only [List.getElem_toArray, List.getElem_cons_succ, List.getElem_cons_zero] at hSw ⊢); go_simp; (try with_reducible rfl)
            (try dsimp only [List.getElem_toArray, List.getElem_cons_succ, List.getElem_cons_zero]); (try simp only [Act.put, List.setIfInBounds_toArray, List.set_cons_zero, List.set_cons_succ])
            refine wpAnyH_take (i := 4) (v := ?_) rfl (by kernel_rfl) (by kernel_rfl) (by kernel_rfl) (fun _ _ _ h => h) (Or.inl ⟨by rfl, ?_⟩) (by assumption) ?_
            rotate_left
            · intro w hSw; (try dsimp only [List.getElem_toArray, List.getElem_cons_succ, List.getElem_cons_zero] at hSw ⊢); go_simp; (try with_reducible rfl)
            (try dsimp only [List.getElem_toArray, List.getElem_cons_succ, List.getElem_cons_zero]); (try simp only [Act.put, List.setIfInBounds_toArray, List.set_cons_zero, List.set_cons_succ])
            refine wpAnyH_take (i := 5) (v := ?_) rfl (by kernel_rfl) (by kernel_rfl) (by kernel_rfl) (fun _ _ _ h => h) (Or.inl ⟨by rfl, ?_⟩) (by assumption) ?_
            rotate_left
            · intro w hSw; (try dsimp only [List.getElem_toArray, List.getElem_cons_succ, List.getElem_cons_zero] at hSw ⊢); go_simp; (try with_reducible rfl)
            (try dsimp only [List.getElem_toArray, List.getElem_cons_succ, List.getElem_cons_zero]); (try simp only [Act.put, List.setIfInBounds_toArray, List.set_cons_zero, List.set_cons_succ])
            refine wpAnyH_take (i := 6) (v := ?_) rfl (by kernel_rfl) (by kernel_rfl) (by kernel_rfl) (fun _ _ _ h => h) (Or.inl ⟨by rfl, ?_⟩) (by assumption) ?_
            rotate_left
            · intro w hSw; (try dsimp only [List.getElem_toArray, List.getElem_cons_succ, List.getElem_cons_zero] at hSw ⊢); go_simp; (try with_reducible rfl)
            (try dsimp only [List.getElem_toArray, List.getElem_cons_succ, List.getElem_cons_zero]); (try simp only [Act.put, List.setIfInBounds_toArray, List.set_cons_zero, List.set_cons_succ])
            refine wpAnyH_take (i := 7) (v := ?_) rfl (by kernel_rfl) (by kernel_rfl) (by kernel_rfl) (fun _ _ _ h => h) (Or.inl ⟨by rfl, ?_⟩) (by assumption) ?_
            rotate_left
            · intro w hSw; (try dsimp only [List.getElem_toArray, List.getElem_cons_succ, List.getElem_cons_zero] at hSw ⊢); go_simp; (try with_reducible rfl)
            (try dsimp only [List.getElem_toArray, List.getElem_cons_succ, List.getElem_cons_zero]); (try simp only [Act.put, List.setIfInBounds_toArray, List.set_cons_zero, List.set_cons_succ])
            refine wpAnyH_take (i := 8) (v := ?_) rfl (by kernel_rfl) (by kernel_rfl) (by kernel_rfl) (fun _ _ _ h => h) (Or.inl ⟨by rfl, ?_⟩) (by assumption) ?_
            rotate_left
            · intro w hSw; (try dsimp only [List.getElem_toArray, List.getElem_cons_succ, List.getElem_cons_zero] at hSw ⊢); go_simp; (try with_reducible rfl)
            (try dsimp only [List.getElem_toArray, List.getElem_cons_succ, List.getElem_cons_zero]); (try simp only [Act.put, List.setIfInBounds_toArray, List.set_cons_zero, List.set_cons_succ])
            refine wpAnyH_take (i := 9) (v := ?_) rfl (by kernel_rfl) (by kernel_rfl) (by kernel_rfl) (fun _ _ _ h => h) (Or.inl ⟨by rfl, ?_⟩) (by assumption) ?_
            rotate_left
            · intro w hSw; (try dsimp only [List.getElem_toArray, List.getElem_cons_succ, List.getElem_cons_zero] at hSw ⊢); go_simp; (try with_reducible rfl)
            (try dsimp only [List.getElem_toArray, List.getElem_cons_succ, List.getElem_cons_zero]); (try simp only [Act.put, List.setIfInBounds_toArray, List.set_cons_zero, List.set_cons_succ])
            refine wpAnyH_take (i := 10) (v := ?_) rfl (by kernel_rfl) (by kernel_rfl) (by kernel_rfl) (fun _ _ _ h => h) (Or.inl ⟨by rfl, ?_⟩) (by assumption) ?_
            rotate_left
            · intro w hSw; (try dsimp only [List.getElem_toArray, List.getElem_cons_succ, List.getElem_cons_zero] at hSw ⊢); go_simp; (try with_reducible rfl)
            (try dsimp only [List.getElem_toArray, List.getElem_cons_succ, List.getElem_cons_zero]); (try simp only [Act.put, List.setIfInBounds_toArray, List.set_cons_zero, List.set_cons_succ])
            refine wpAnyH_take (i := 11) (v := ?_) rfl (by kernel_rfl) (by kernel_rfl) (by kernel_rfl) (fun _ _ _ h => h) (Or.inl ⟨by rfl, ?_⟩) (by assumption) ?_
            rotate_left
            · intro w hSw; (try dsimp only [List.getElem_toArray, List.getElem_cons_succ, List.getElem_cons_zero] at hSw ⊢); go_simp; (try with_reducible rfl)
            (try dsimp only [List.getElem_toArray, List.getElem_cons_succ, List.getElem_cons_zero]); (try simp only [Act.put, List.setIfInBounds_toArray, List.set_cons_zero, List.set_cons_succ])
            refine wpAnyH_take (i := 12) (v := ?_) rfl (by kernel_rfl) (by kernel_rfl) (by kernel_rfl) (fun _ _ _ h => h) (Or.inl ⟨by rfl, ?_⟩) (by assumption) ?_
            rotate_left
            · intro w hSw; (try dsimp only [List.getElem_toArray, List.getElem_cons_succ, List.getElem_cons_zero] at hSw ⊢); go_simp; (try with_reducible rfl)
            (try dsimp only [List.getElem_toArray, List.getElem_cons_succ, List.getElem_cons_zero]); (try simp only [Act.put, List.setIfInBounds_toArray, List.set_cons_zero, List.set_cons_succ])
            refine wpAnyH_take (i := 13) (v := ?_) rfl (by kernel_rfl) (by kernel_rfl) (by kernel_rfl) (fun _ _ _ h => h) (Or.inl ⟨by rfl, ?_⟩) (by assumption) ?_
            rotate_left
            · intro w hSw; (try dsimp only [List.getElem_toArray, List.getElem_cons_succ, List.getElem_cons_zero] at hSw ⊢); go_simp; (try with_reducible rfl)
            (try dsimp only [List.getElem_toArray, List.getElem_cons_succ, List.getElem_cons_zero]); (try simp only [Act.put, List.setIfInBounds_toArray, List.set_cons_zero, List.set_cons_succ])
            refine wpAnyH_ready (rs := [1, 14]) (by kernel_rfl) (by simp) ?_
            refine AllReadyH.cons rfl (fun K hK => ?_) ?_
            · go_simp
              clear hHeld
              refine hK.out _ _ ?_ (fun hHeld => ?_)
              · (first | (refine fun b o hb _ => olds (Below.mono (B := wr.heap.size) ?_ hsz3) b o hb; (repeat (first | with_reducible exact Below.refl _ _ | with_reducible assumption | with_reducible refine Below.drew ?_ | with_reducible refine Below.alloc ?_ (by first | omega | (simp; done) | (simp; omega)) _ | with_reducible refine Below.setCell ?_ (by first | omega | (simp; done) | (simp; omega)) _)); done) | (refine fun b o hb _ => olds ?_ b o hb; (repeat (first | with_reducible exact Below.refl _ _ | with_reducible assumption | with_reducible refine Below.drew ?_ | with_reducible refine Below.alloc ?_ (by first | omega | (simp; done) | (simp; omega)) _ | with_reducible refine Below.setCell ?_ (by first | omega | (simp; done) | (simp; omega)) _)); done) | exact fun b o hb hne => (World.cell?_of_block (Below.heap_setCell _ _ _ _ hne)).trans (olds hb9 b o hb))
              clear hK K
              refine wpAnyH_ready (rs := [14]) (by kernel_rfl) (by simp) ?_
              refine AllReadyH.cons rfl (fun K hK => ?_) ?_
              · go_simp; go_at_call 70; refine (copy06 y c6 d6 _).mono ?_; rintro e w5 ⟨c5, d5, rfl, hb5'⟩; have hb5 : Below wr.heap.size wr w5 := bthen (by repeat (first | with_reducible exact Below.refl _ _ | with_reducible assumption | with_reducible refine Below.drew ?_ | with_reducible refine Below.alloc ?_ (by first | omega | (simp; done) | (simp; omega)) _ | with_reducible refine Below.setCell ?_ (by first | omega | (simp; done) | (simp; omega)) _)) hb5'; have hz5 := hb5.size; have et1_ : w5.cell? ⟨T, 1, none⟩ = some (.slice va_ t vc) := (olds hb5 _ _ hTr).trans et1; have zt5 : T < w5.heap.size := Nat.lt_of_lt_of_le hTr hz5; dsimp only
                clear hHeld
                refine hK.out _ _ ?_ (fun hHeld => ?_)
                · (first | (refine fun b o hb _ => olds (Below.mono (B := wr.heap.size) ?_ hsz3) b o hb; (repeat (first | with_reducible exact Below.refl _ _ | with_reducible assumption | with_reducible refine Below.drew ?_ | with_reducible refine Below.alloc ?_ (by first | omega | (simp; done) | (simp; omega)) _ | with_reducible refine Below.setCell ?_ (by first | omega | (simp; done) | (simp; omega)) _)); done) | (refine fun b o hb _ => olds ?_ b o hb; (repeat (first | with_reducible exact Below.refl _ _ | with_reducible assumption | with_reducible refine Below.drew ?_ | with_reducible refine Below.alloc ?_ (by first | omega | (simp; done) | (simp; omega)) _ | with_reducible refine Below.setCell ?_ (by first | omega | (simp; done) | (simp; omega)) _)); done) | exact fun b o hb hne => (World.cell?_of_block (Below.heap_setCell _ _ _ _ hne)).trans (olds hb9 b o hb))
                clear hK K
                refine wpAnyH_ready (rs := [15]) (by kernel_rfl) (by simp) ?_
                refine AllReadyH.cons rfl (fun K hK => ?_) ?_
                · go_simp
                  clear hHeld
                  refine hK.out _ _ ?_ (fun hHeld => ?_)
                  · (first | (refine fun b o hb _ => olds (Below.mono (B := wr.heap.size) ?_ hsz3) b o hb; (repeat (first | with_reducible exact Below.refl _ _ | with_reducible assumption | with_reducible refine Below.drew ?_ | with_reducible refine Below.alloc ?_ (by first | omega | (simp; done) | (simp; omega)) _ | with_reducible refine Below.setCell ?_ (by first | omega | (simp; done) | (simp; omega)) _)); done) | (refine fun b o hb _ => olds ?_ b o hb; (repeat (first | with_reducible exact Below.refl _ _ | with_reducible assumption | with_reducible refine Below.drew ?_ | with_reducible refine Below.alloc ?_ (by first | omega | (simp; done) | (simp; omega)) _ | with_reducible refine Below.setCell ?_ (by first | omega | (simp; done) | (simp; omega)) _)); done) | exact fun b o hb hne => (World.cell?_of_block (Below.heap_setCell _ _ _ _ hne)).trans (olds hb9 b o hb))
                  clear hK K
                  refine wpAnyH_ready (rs := [16]) (by kernel_rfl) (by simp) ?_
                  refine AllReadyH.cons rfl (fun K hK => ?_) ?_
                  · refine step_append_lies _ (by rfl) _ _ _ (by rfl) w3.heap.size 47 j0 _ 7 96 und_vals Ji.out Jz0.out Jz1.out Jz2.out rfl (by decide) _ t (cvs zs) (by rfl) (own_below HOV.out (by repeat (first | with_reducible exact Below.refl _ _ | with_reducible assumption | with_reducible refine Below.drew ?_ | with_reducible refine Below.alloc ?_ (by first | omega | (simp; done) | (simp; omega)) _ | with_reducible refine Below.setCell ?_ (by first | omega | (simp; done) | (simp; omega)) _))) ⟨w5.heap.size, 0, none⟩ 1 1 (cv (y, c5, d5)) (by rfl) rfl (One.cells (heap_alloc_new _ _)) (cvs_one' (y, c5, d5)) (by decide) (by unfold maxLen; omega) (by omega) (by simp; omega) _ rfl ?_; intro g9 cap9 w9 hown9 hgr9 hat9 hgl9; have hb9 : Below w3.heap.size wr w9 := Below.grown (Below.mono (by repeat (first | with_reducible exact Below.refl _ _ | with_reducible assumption | with_reducible refine Below.drew ?_ | with_reducible refine Below.alloc ?_ (by first | omega | (simp; done) | (simp; omega)) _ | with_reducible refine Below.setCell ?_ (by first | omega | (simp; done) | (simp; omega)) _)) hsz3) hgr9 (by simp; omega) (fun g hg => (HOV.out.lt g hg).1); have e9 : w9.cell? ⟨T, 1, none⟩ = some (.slice va_ t vc) := (olds hb9 _ _ hT3).trans et1; have f9 : w9.frozen? ⟨T, 1, none⟩ = false := (oldf hb9 _ _ hT3).trans (ft 1); have zt9 : T < w9.heap.size := Nat.lt_of_lt_of_le hTr hb9.size
                    clear hHeld
                    refine hK.out _ _ ?_ (fun hHeld => ?_)
                    · (first | (refine fun b o hb _ => olds (Below.mono (B := wr.heap.size) ?_ hsz3) b o hb; (repeat (first | with_reducible exact Below.refl _ _ | with_reducible assumption | with_reducible refine Below.drew ?_ | with_reducible refine Below.alloc ?_ (by first | omega | (simp; done) | (simp; omega)) _ | with_reducible refine Below.setCell ?_ (by first | omega | (simp; done) | (simp; omega)) _)); done) | (refine fun b o hb _ => olds ?_ b o hb; (repeat (first | with_reducible exact Below.refl _ _ | with_reducible assumption | with_reducible refine Below.drew ?_ | with_reducible refine Below.alloc ?_ (by first | omega | (simp; done) | (simp; omega)) _ | with_reducible refine Below.setCell ?_ (by first | omega | (simp; done) | (simp; omega)) _)); done) | exact fun b o hb hne => (World.cell?_of_block (Below.heap_setCell _ _ _ _ hne)).trans (olds hb9 b o hb))
                    clear hK K
                    refine wpAnyH_take (i := 17) (v := ?_) rfl (by kernel_rfl) (by kernel_rfl) (by kernel_rfl) (fun _ _ _ h => h) (Or.inl ⟨by rfl, ?_⟩) (by assumption) ?_
                    rotate_left
                    · intro w hSw; (try dsimp only [List.getElem_toArray, List.getElem_cons_succ, List.getElem_cons_zero] at hSw ⊢); go_simp; (try with_reducible rfl)
                    (try dsimp only [List.getElem_toArray, List.getElem_cons_succ, List.getElem_cons_zero]); (try simp only [Act.put, List.setIfInBounds_toArray, List.set_cons_zero, List.set_cons_succ])
                    refine wpAnyH_ready (rs := [18]) (by kernel_rfl) (by simp) ?_
                    refine AllReadyH.cons rfl (fun K hK => ?_) ?_
                    · go_simp
                      clear hHeld
                      refine hK.out _ _ ?_ (fun hHeld => ?_)
                      · (first | (refine fun b o hb _ => olds (Below.mono (B := wr.heap.size) ?_ hsz3) b o hb; (repeat (first | with_reducible exact Below.refl _ _ | with_reducible assumption | with_reducible refine Below.drew ?_ | with_reducible refine Below.alloc ?_ (by first | omega | (simp; done) | (simp; omega)) _ | with_reducible refine Below.setCell ?_ (by first | omega | (simp; done) | (simp; omega)) _)); done) | (refine fun b o hb _ => olds ?_ b o hb; (repeat (first | with_reducible exact Below.refl _ _ | with_reducible assumption | with_reducible refine Below.drew ?_ | with_reducible refine Below.alloc ?_ (by first | omega | (simp; done) | (simp; omega)) _ | with_reducible refine Below.setCell ?_ (by first | omega | (simp; done) | (simp; omega)) _)); done) | exact fun b o hb hne => (World.cell?_of_block (Below.heap_setCell _ _ _ _ hne)).trans (olds hb9 b o hb))
                      clear hK K
                      refine wpAnyH_done (by kernel_rfl) ?_ _
                      have hM := HI.out.mid (z := (y, c5, d5)) hT3 hwT rfl (by repeat (first | with_reducible exact Below.refl _ _ | with_reducible assumption | with_reducible refine Below.drew ?_ | with_reducible refine Below.alloc ?_ (by first | omega | (simp; done) | (simp; omega)) _ | with_reducible refine Below.setCell ?_ (by first | omega | (simp; done) | (simp; omega)) _)) hown9 hgr9 hat9
                      have hgo9 : go < w9.heap.size := Nat.lt_of_lt_of_le hgo3 (Nat.le_trans hsz3 hb9.size)
                      have hcu9 : w9.cell? ⟨go, t, none⟩ = some (.slice (some ⟨gu, 0, none⟩) ql cu) := (olds hb9 _ _ hgo3).trans hcu
                      have HM := Lib.hid hM
                      clear hM hown9 hgr9 hat9 hb5 et1_ hb5'
                      go_wp2_with fail
                      obtain ⟨W, hW⟩ : ∃ W, W = w9.setCell ⟨T, 1, none⟩ (.slice (some ⟨g9, 0, none⟩) (t + 1) cap9) := ⟨_, rfl⟩
                      have HM : RowKit.Hid (PMid A m n k T w3.heap.size w w3 gs t (.slice ra R rc) (.slice (some ⟨g9, 0, none⟩) (t + 1) cap9) (.slice na t nc) os (zs ++ [(y, c5, d5)]) W) := Lib.hid (by rw [hW, HR.out]; exact HM.out)
                      rw [← hW]
                      have eN : (n : Int) + 1 + R = ((n + 1 + R : Nat) : Int) := by omega
                      rw [eN]
                      clear eN
                      have hcd := HCARD.out
                      refine (HP.out g.2 HSET.out HCARD.out W _ _ (n + 1 + R) (by omega) (HA.out.mono HM.out.bl) (HIU.out W HM.out.kt)).mono ?_
                      rintro e w10 ⟨v10, os10, rfl, hm10, hb10⟩
                      dsimp only
                      obtain ⟨ma, mc, rfl⟩ := own_slice hm10.own
                      obtain ⟨ml, hml⟩ : ∃ ml, ml = (planF A m 13 g.2 (n + 1 + R)).length := ⟨_, rfl⟩
                      rw [← hml]
                      have hml12 : ml ≤ 12 := by rw [hml]; have := planF_len A m 13 g.2 (n + 1 + R); omega
                      have hnil := planF_nil A m g.2 (n + 1 + R)
                      rw [← hml] at hnil
                      have HM10 := Lib.hid (HM.out.below hb10)
                      have HMORE := Lib.hid hm10; have HML := Lib.hid hml; have HNIL := Lib.hid hnil; have HB10 := Lib.hid hb10
                      have u2 : w10.cell? ⟨T, 2, none⟩ = some (.slice na t nc) := cell_of_row _ _ _ _ _ _ HM10.out.blk
                      have uf : ∀ j, w10.frozen? ⟨T, j, none⟩ = false := fun j => frozen_cells HM10.out.blk j
                      have zt10 : T < w10.heap.size := (Array.getElem?_eq_some_iff.1 HM10.out.blk).1
                      have hs10 : w3.heap.size ≤ w10.heap.size := HM10.out.kt.size
                      have hWsz : w3.heap.size ≤ W.heap.size := HM.out.kt.size
                      have hvm : ∀ (i : Nat) (u : Value) (g : Nat), (os10.map (·.2.2))[i]? = some u → u.ownBlock = some g → (Value.slice na t nc).ownBlock ≠ some g := by
                        intro i u g hu hg e
                        have h1 := (HMORE.out.lt2 hu hg).1
                        have h2 := (HM.out.oi.lt g e).2
                        omega
                      have HVM := Lib.hid hvm
                      obtain ⟨zz_, hzz⟩ : ∃ zz_ : Int, zz_ = if dep A m g.2 = 0 then -1 else ((n + 1 + R : Nat) : Int) := ⟨_, rfl⟩
                      have HZZ := Lib.hid hzz
                      clear hm10 hb10 hml hnil hW hvm hzz hgo9 hcu9 e9 f9 zt9 hb9 et0 et1 et2 ft
                      by_cases hm0 : ml = 0
                      · have hd0_ := HNIL.out.1 hm0
                        have hz_ : RowKit.Hid (zz_ = -1) := Lib.hid (by rw [HZZ.out, if_pos hd0_])
                        have h0 : ((ml : Int) == 0) = true := by simp [hm0]
                        clear hm0
                        go_wp2_with (first | (at_builtin; (refine wpList_app rfl (.tmp 72) (.tmp 73) 26 rfl w3.heap.size 3 i0 (.int .i64 0) 1 8 und_ints Hi.out Hz0.out Hz1.out Hz2.out rfl (by decide) _ t _ rfl (HM10.out.oi.alloc _) ⟨w10.heap.size, 0, none⟩ 1 1 [.int .i64 (-1)] rfl rfl (cell_one_new _ _ _) (by intro q hq; simp at hq; subst hq; rfl) (by unfold maxLen; omega) (by omega) (by simp; omega) ?_; intro v11 w11 hown11 hgr11 hfr11; have hb11 : Below w3.heap.size (w10.alloc (.cells #[.int .i64 (-1)] 3)) w11 := (Below.refl _ _).grown hgr11 (by simp; omega) (fun g hg => (HM10.out.oi.lt g hg).1); have e11 : w11.cell? ⟨T, 2, none⟩ = some (.slice na t nc) := (olds hb11 _ _ hT3).trans ((olds (below1 w10 _) _ _ zt10).trans u2); have f11 : w11.frozen? ⟨T, 2, none⟩ = false := (oldf hb11 _ _ hT3).trans ((oldf (below1 w10 _) _ _ zt10).trans (uf 2)); have zt11 : T < w11.heap.size := (by have := hb11.size; simp at this; omega); obtain ⟨ia, ic, rfl⟩ := own_slice hown11)) | (at_builtin; have hstop := hgr11; refine Classical.byContradiction fun hgoal => ?_))
                        refine hgoal ?_
                        clear hgoal hstop
                        have hr11 := ((((HM10.out.below (below1 w10 (.cells #[.int .i64 (-1)] 3))).asks.keptI (HM10.out.oi.alloc _) hgr11 HM10.out.f2).setlow (o := 2) (u := .slice ia (t + 1) ic) hT3))
                        have hmr := ((((HMORE.out.below (below1 w10 (.cells #[.int .i64 (-1)] 3))).base hWsz).keptI (HM10.out.oi.alloc _) hgr11 HVM.out).setlow (o := 2) (u := .slice ia (t + 1) ic) hT3)
                        have hr11o := hr11.own
                        rw [← HR.out] at hr11o
                        have hmro := hmr.own
                        rw [← HML.out] at hmro
                        refine wpList_app2 rfl (.tmp 86) (.tmp 87) 27 rfl w3.heap.size 59 q0 _ 3 56 und_asks Qi.out Qz0.out Qz1.out Qz2.out rfl (by decide) _ R _ rfl hr11o ma ml mc (os10.flatMap askC) rfl (by rw [flat3_len, HMORE.out.len, HML.out]) (own_news hmro).1 (own_news hmro).2 HMORE.out.cell1 (by unfold maxLen; omega) (by omega) (by have := hb11.size; simp at this; simp; omega) ?_
                        intro v12 w12 hown12 hgr12 hat12
                        have hst : stepF A m 12 n (gs.take (t + 1)) = ((stepF A m 12 n (gs.take t)).1 ++ [zz_], (stepF A m 12 n (gs.take t)).2 ++ planF A m 13 g.2 (n + 1 + R)) := by
                          rw [List.take_succ_eq_append_getElem htl, stepF_snoc, ← HG.out, ← HR.out, planF_12, HZZ.out]
                        have hzv : (zs ++ [(y, c5, d5)]).map (·.1) = (gs.take (t + 1)).map (·.1) := by
                          rw [List.take_succ_eq_append_getElem htl, List.map_append, List.map_append, HI.out.zv, ← HG.out, HY.out]; rfl
                        have hPI := HM.out.fin (z := zz_) hT3 hwT rfl HB10.out HMORE.out (by rw [hz_.out]; exact hown11) hgr11 hfr11 (by rw [← HR.out, ← HML.out]; exact hown12) hgr12 hzv hst
                        have HPI := Lib.hid hPI
                        clear hPI hst hzv hown11 hgr11 hfr11 hown12 hgr12 hat12 hr11 hmr hr11o hmro
                        go_wp2
                        exact ⟨⟨t + 1, _, _, _, _, by omega, by go_num, HPI.out⟩, by simp [intOf]; omega⟩
                      · have hd0_ := fun h => hm0 (HNIL.out.2 h)
                        have hz_ : RowKit.Hid (zz_ = ((n + 1 + R : Nat) : Int)) := Lib.hid (by rw [HZZ.out, if_neg hd0_])
                        have h0 : ((ml : Int) == 0) = false := by rw [beq_eq_false_iff_ne]; omega
                        go_wp2_with (first | (at_builtin; (refine wpList_app rfl (.tmp 77) (.tmp 83) 26 rfl w3.heap.size 3 i0 (.int .i64 0) 1 8 und_ints Hi.out Hz0.out Hz1.out Hz2.out rfl (by decide) _ t _ rfl (HM10.out.oi.alloc _) ⟨w10.heap.size, 0, none⟩ 1 1 [.int .i64 ((n : Int) + 1 + R)] rfl rfl (cell_one_new _ _ _) (by intro q hq; simp at hq; subst hq; rfl) (by unfold maxLen; omega) (by omega) (by simp; omega) ?_; intro v11 w11 hown11 hgr11 hfr11; have hb11 : Below w3.heap.size (w10.alloc (.cells #[.int .i64 ((n : Int) + 1 + R)] 3)) w11 := (Below.refl _ _).grown hgr11 (by simp; omega) (fun g hg => (HM10.out.oi.lt g hg).1); have e11 : w11.cell? ⟨T, 2, none⟩ = some (.slice na t nc) := (olds hb11 _ _ hT3).trans ((olds (below1 w10 _) _ _ zt10).trans u2); have f11 : w11.frozen? ⟨T, 2, none⟩ = false := (oldf hb11 _ _ hT3).trans ((oldf (below1 w10 _) _ _ zt10).trans (uf 2)); have zt11 : T < w11.heap.size := (by have := hb11.size; simp at this; omega); obtain ⟨ia, ic, rfl⟩ := own_slice hown11)) | (at_builtin; have hstop := hgr11; refine Classical.byContradiction fun hgoal => ?_))
                        refine hgoal ?_
                        clear hgoal hstop
                        have hr11 := ((((HM10.out.below (below1 w10 (.cells #[.int .i64 ((n : Int) + 1 + R)] 3))).asks.keptI (HM10.out.oi.alloc _) hgr11 HM10.out.f2).setlow (o := 2) (u := .slice ia (t + 1) ic) hT3))
                        have hmr := ((((HMORE.out.below (below1 w10 (.cells #[.int .i64 ((n : Int) + 1 + R)] 3))).base hWsz).keptI (HM10.out.oi.alloc _) hgr11 HVM.out).setlow (o := 2) (u := .slice ia (t + 1) ic) hT3)
                        have hr11o := hr11.own
                        rw [← HR.out] at hr11o
                        have hmro := hmr.own
                        rw [← HML.out] at hmro
                        refine wpList_app2 rfl (.tmp 86) (.tmp 87) 27 rfl w3.heap.size 59 q0 _ 3 56 und_asks Qi.out Qz0.out Qz1.out Qz2.out rfl (by decide) _ R _ rfl hr11o ma ml mc (os10.flatMap askC) rfl (by rw [flat3_len, HMORE.out.len, HML.out]) (own_news hmro).1 (own_news hmro).2 HMORE.out.cell1 (by unfold maxLen; omega) (by omega) (by have := hb11.size; simp at this; simp; omega) ?_
                        intro v12 w12 hown12 hgr12 hat12
                        have hst : stepF A m 12 n (gs.take (t + 1)) = ((stepF A m 12 n (gs.take t)).1 ++ [zz_], (stepF A m 12 n (gs.take t)).2 ++ planF A m 13 g.2 (n + 1 + R)) := by
                          rw [List.take_succ_eq_append_getElem htl, stepF_snoc, ← HG.out, ← HR.out, planF_12, HZZ.out]
                        have hzv : (zs ++ [(y, c5, d5)]).map (·.1) = (gs.take (t + 1)).map (·.1) := by
                          rw [List.take_succ_eq_append_getElem htl, List.map_append, List.map_append, HI.out.zv, ← HG.out, HY.out]; rfl
                        have hPI := HM.out.fin (z := zz_) hT3 hwT rfl HB10.out HMORE.out (by rw [hz_.out]; exact hown11) hgr11 hfr11 (by rw [← HR.out, ← HML.out]; exact hown12) hgr12 hzv hst
                        have HPI := Lib.hid hPI
                        clear hPI hst hzv hown11 hgr11 hfr11 hown12 hgr12 hat12 hr11 hmr hr11o hmro
                        go_wp2
                        exact ⟨⟨t + 1, _, _, _, _, by omega, by go_num, HPI.out⟩, by simp [intOf]; omega⟩
                    exact AllReadyH.nil
                  exact AllReadyH.nil
                exact AllReadyH.nil
              exact AllReadyH.nil
            refine AllReadyH.cons rfl (fun K hK => ?_) ?_
            · go_simp; go_at_call 70; refine (copy06 y c6 d6 _).mono ?_; rintro e w5 ⟨c5, d5, rfl, hb5'⟩; have hb5 : Below wr.heap.size wr w5 := bthen (by repeat (first | with_reducible exact Below.refl _ _ | with_reducible assumption | with_reducible refine Below.drew ?_ | with_reducible refine Below.alloc ?_ (by first | omega | (simp; done) | (simp; omega)) _ | with_reducible refine Below.setCell ?_ (by first | omega | (simp; done) | (simp; omega)) _)) hb5'; have hz5 := hb5.size; have et1_ : w5.cell? ⟨T, 1, none⟩ = some (.slice va_ t vc) := (olds hb5 _ _ hTr).trans et1; have zt5 : T < w5.heap.size := Nat.lt_of_lt_of_le hTr hz5; dsimp only
              clear hHeld
              refine hK.out _ _ ?_ (fun hHeld => ?_)
              · (first | (refine fun b o hb _ => olds (Below.mono (B := wr.heap.size) ?_ hsz3) b o hb; (repeat (first | with_reducible exact Below.refl _ _ | with_reducible assumption | with_reducible refine Below.drew ?_ | with_reducible refine Below.alloc ?_ (by first | omega | (simp; done) | (simp; omega)) _ | with_reducible refine Below.setCell ?_ (by first | omega | (simp; done) | (simp; omega)) _)); done) | (refine fun b o hb _ => olds ?_ b o hb; (repeat (first | with_reducible exact Below.refl _ _ | with_reducible assumption | with_reducible refine Below.drew ?_ | with_reducible refine Below.alloc ?_ (by first | omega | (simp; done) | (simp; omega)) _ | with_reducible refine Below.setCell ?_ (by first | omega | (simp; done) | (simp; omega)) _)); done) | exact fun b o hb hne => (World.cell?_of_block (Below.heap_setCell _ _ _ _ hne)).trans (olds hb9 b o hb))
              clear hK K
              refine wpAnyH_ready (rs := [1, 15]) (by kernel_rfl) (by simp) ?_
              refine AllReadyH.cons rfl (fun K hK => ?_) ?_
              · go_simp
                clear hHeld
                refine hK.out _ _ ?_ (fun hHeld => ?_)
                · (first | (refine fun b o hb _ => olds (Below.mono (B := wr.heap.size) ?_ hsz3) b o hb; (repeat (first | with_reducible exact Below.refl _ _ | with_reducible assumption | with_reducible refine Below.drew ?_ | with_reducible refine Below.alloc ?_ (by first | omega | (simp; done) | (simp; omega)) _ | with_reducible refine Below.setCell ?_ (by first | omega | (simp; done) | (simp; omega)) _)); done) | (refine fun b o hb _ => olds ?_ b o hb; (repeat (first | with_reducible exact Below.refl _ _ | with_reducible assumption | with_reducible refine Below.drew ?_ | with_reducible refine Below.alloc ?_ (by first | omega | (simp; done) | (simp; omega)) _ | with_reducible refine Below.setCell ?_ (by first | omega | (simp; done) | (simp; omega)) _)); done) | exact fun b o hb hne => (World.cell?_of_block (Below.heap_setCell _ _ _ _ hne)).trans (olds hb9 b o hb))
                clear hK K
                refine wpAnyH_ready (rs := [15]) (by kernel_rfl) (by simp) ?_
                refine AllReadyH.cons rfl (fun K hK => ?_) ?_
                · go_simp
                  clear hHeld
                  refine hK.out _ _ ?_ (fun hHeld => ?_)
                  · (first | (refine fun b o hb _ => olds (Below.mono (B := wr.heap.size) ?_ hsz3) b o hb; (repeat (first | with_reducible exact Below.refl _ _ | with_reducible assumption | with_reducible refine Below.drew ?_ | with_reducible refine Below.alloc ?_ (by first | omega | (simp; done) | (simp; omega)) _ | with_reducible refine Below.setCell ?_ (by first | omega | (simp; done) | (simp; omega)) _)); done) | (refine fun b o hb _ => olds ?_ b o hb; (repeat (first | with_reducible exact Below.refl _ _ | with_reducible assumption | with_reducible refine Below.drew ?_ | with_reducible refine Below.alloc ?_ (by first | omega | (simp; done) | (simp; omega)) _ | with_reducible refine Below.setCell ?_ (by first | omega | (simp; done) | (simp; omega)) _)); done) | exact fun b o hb hne => (World.cell?_of_block (Below.heap_setCell _ _ _ _ hne)).trans (olds hb9 b o hb))
                  clear hK K
                  refine wpAnyH_ready (rs := [16]) (by kernel_rfl) (by simp) ?_
                  refine AllReadyH.cons rfl (fun K hK => ?_) ?_
                  · refine step_append_lies _ (by rfl) _ _ _ (by rfl) w3.heap.size 47 j0 _ 7 96 und_vals Ji.out Jz0.out Jz1.out Jz2.out rfl (by decide) _ t (cvs zs) (by rfl) (own_below HOV.out (by repeat (first | with_reducible exact Below.refl _ _ | with_reducible assumption | with_reducible refine Below.drew ?_ | with_reducible refine Below.alloc ?_ (by first | omega | (simp; done) | (simp; omega)) _ | with_reducible refine Below.setCell ?_ (by first | omega | (simp; done) | (simp; omega)) _))) ⟨w5.heap.size, 0, none⟩ 1 1 (cv (y, c5, d5)) (by rfl) rfl (One.cells (heap_alloc_new _ _)) (cvs_one' (y, c5, d5)) (by decide) (by unfold maxLen; omega) (by omega) (by simp; omega) _ rfl ?_; intro g9 cap9 w9 hown9 hgr9 hat9 hgl9; have hb9 : Below w3.heap.size wr w9 := Below.grown (Below.mono (by repeat (first | with_reducible exact Below.refl _ _ | with_reducible assumption | with_reducible refine Below.drew ?_ | with_reducible refine Below.alloc ?_ (by first | omega | (simp; done) | (simp; omega)) _ | with_reducible refine Below.setCell ?_ (by first | omega | (simp; done) | (simp; omega)) _)) hsz3) hgr9 (by simp; omega) (fun g hg => (HOV.out.lt g hg).1); have e9 : w9.cell? ⟨T, 1, none⟩ = some (.slice va_ t vc) := (olds hb9 _ _ hT3).trans et1; have f9 : w9.frozen? ⟨T, 1, none⟩ = false := (oldf hb9 _ _ hT3).trans (ft 1); have zt9 : T < w9.heap.size := Nat.lt_of_lt_of_le hTr hb9.size
                    clear hHeld
                    refine hK.out _ _ ?_ (fun hHeld => ?_)
                    · (first | (refine fun b o hb _ => olds (Below.mono (B := wr.heap.size) ?_ hsz3) b o hb; (repeat (first | with_reducible exact Below.refl _ _ | with_reducible assumption | with_reducible refine Below.drew ?_ | with_reducible refine Below.alloc ?_ (by first | omega | (simp; done) | (simp; omega)) _ | with_reducible refine Below.setCell ?_ (by first | omega | (simp; done) | (simp; omega)) _)); done) | (refine fun b o hb _ => olds ?_ b o hb; (repeat (first | with_reducible exact Below.refl _ _ | with_reducible assumption | with_reducible refine Below.drew ?_ | with_reducible refine Below.alloc ?_ (by first | omega | (simp; done) | (simp; omega)) _ | with_reducible refine Below.setCell ?_ (by first | omega | (simp; done) | (simp; omega)) _)); done) | exact fun b o hb hne => (World.cell?_of_block (Below.heap_setCell _ _ _ _ hne)).trans (olds hb9 b o hb))
                    clear hK K
                    refine wpAnyH_take (i := 17) (v := ?_) rfl (by kernel_rfl) (by kernel_rfl) (by kernel_rfl) (fun _ _ _ h => h) (Or.inl ⟨by rfl, ?_⟩) (by assumption) ?_
                    rotate_left
                    · intro w hSw; (try dsimp only [List.getElem_toArray, List.getElem_cons_succ, List.getElem_cons_zero] at hSw ⊢); go_simp; (try with_reducible rfl)
                    (try dsimp only [List.getElem_toArray, List.getElem_cons_succ, List.getElem_cons_zero]); (try simp only [Act.put, List.setIfInBounds_toArray, List.set_cons_zero, List.set_cons_succ])
                    refine wpAnyH_ready (rs := [18]) (by kernel_rfl) (by simp) ?_
                    refine AllReadyH.cons rfl (fun K hK => ?_) ?_
                    · go_simp
                      clear hHeld
                      refine hK.out _ _ ?_ (fun hHeld => ?_)
                      · (first | (refine fun b o hb _ => olds (Below.mono (B := wr.heap.size) ?_ hsz3) b o hb; (repeat (first | with_reducible exact Below.refl _ _ | with_reducible assumption | with_reducible refine Below.drew ?_ | with_reducible refine Below.alloc ?_ (by first | omega | (simp; done) | (simp; omega)) _ | with_reducible refine Below.setCell ?_ (by first | omega | (simp; done) | (simp; omega)) _)); done) | (refine fun b o hb _ => olds ?_ b o hb; (repeat (first | with_reducible exact Below.refl _ _ | with_reducible assumption | with_reducible refine Below.drew ?_ | with_reducible refine Below.alloc ?_ (by first | omega | (simp; done) | (simp; omega)) _ | with_reducible refine Below.setCell ?_ (by first | omega | (simp; done) | (simp; omega)) _)); done) | exact fun b o hb hne => (World.cell?_of_block (Below.heap_setCell _ _ _ _ hne)).trans (olds hb9 b o hb))
                      clear hK K
                      refine wpAnyH_done (by kernel_rfl) ?_ _
                      have hM := HI.out.mid (z := (y, c5, d5)) hT3 hwT rfl (by repeat (first | with_reducible exact Below.refl _ _ | with_reducible assumption | with_reducible refine Below.drew ?_ | with_reducible refine Below.alloc ?_ (by first | omega | (simp; done) | (simp; omega)) _ | with_reducible refine Below.setCell ?_ (by first | omega | (simp; done) | (simp; omega)) _)) hown9 hgr9 hat9
                      have hgo9 : go < w9.heap.size := Nat.lt_of_lt_of_le hgo3 (Nat.le_trans hsz3 hb9.size)
                      have hcu9 : w9.cell? ⟨go, t, none⟩ = some (.slice (some ⟨gu, 0, none⟩) ql cu) := (olds hb9 _ _ hgo3).trans hcu
                      have HM := Lib.hid hM
                      clear hM hown9 hgr9 hat9 hb5 et1_ hb5'
                      go_wp2_with fail
                      obtain ⟨W, hW⟩ : ∃ W, W = w9.setCell ⟨T, 1, none⟩ (.slice (some ⟨g9, 0, none⟩) (t + 1) cap9) := ⟨_, rfl⟩
                      have HM : RowKit.Hid (PMid A m n k T w3.heap.size w w3 gs t (.slice ra R rc) (.slice (some ⟨g9, 0, none⟩) (t + 1) cap9) (.slice na t nc) os (zs ++ [(y, c5, d5)]) W) := Lib.hid (by rw [hW, HR.out]; exact HM.out)
                      rw [← hW]
                      have eN : (n : Int) + 1 + R = ((n + 1 + R : Nat) : Int) := by omega
                      rw [eN]
                      clear eN
                      have hcd := HCARD.out
                      refine (HP.out g.2 HSET.out HCARD.out W _ _ (n + 1 + R) (by omega) (HA.out.mono HM.out.bl) (HIU.out W HM.out.kt)).mono ?_
                      rintro e w10 ⟨v10, os10, rfl, hm10, hb10⟩
                      dsimp only
                      obtain ⟨ma, mc, rfl⟩ := own_slice hm10.own
                      obtain ⟨ml, hml⟩ : ∃ ml, ml = (planF A m 13 g.2 (n + 1 + R)).length := ⟨_, rfl⟩
                      rw [← hml]
                      have hml12 : ml ≤ 12 := by rw [hml]; have := planF_len A m 13 g.2 (n + 1 + R); omega
                      have hnil := planF_nil A m g.2 (n + 1 + R)
                      rw [← hml] at hnil
                      have HM10 := Lib.hid (HM.out.below hb10)
                      have HMORE := Lib.hid hm10; have HML := Lib.hid hml; have HNIL := Lib.hid hnil; have HB10 := Lib.hid hb10
                      have u2 : w10.cell? ⟨T, 2, none⟩ = some (.slice na t nc) := cell_of_row _ _ _ _ _ _ HM10.out.blk
                      have uf : ∀ j, w10.frozen? ⟨T, j, none⟩ = false := fun j => frozen_cells HM10.out.blk j
                      have zt10 : T < w10.heap.size := (Array.getElem?_eq_some_iff.1 HM10.out.blk).1
                      have hs10 : w3.heap.size ≤ w10.heap.size := HM10.out.kt.size
                      have hWsz : w3.heap.size ≤ W.heap.size := HM.out.kt.size
                      have hvm : ∀ (i : Nat) (u : Value) (g : Nat), (os10.map (·.2.2))[i]? = some u → u.ownBlock = some g → (Value.slice na t nc).ownBlock ≠ some g := by
                        intro i u g hu hg e
                        have h1 := (HMORE.out.lt2 hu hg).1
                        have h2 := (HM.out.oi.lt g e).2
                        omega
                      have HVM := Lib.hid hvm
                      obtain ⟨zz_, hzz⟩ : ∃ zz_ : Int, zz_ = if dep A m g.2 = 0 then -1 else ((n + 1 + R : Nat) : Int) := ⟨_, rfl⟩
                      have HZZ := Lib.hid hzz
                      clear hm10 hb10 hml hnil hW hvm hzz hgo9 hcu9 e9 f9 zt9 hb9 et0 et1 et2 ft
                      by_cases hm0 : ml = 0
                      · have hd0_ := HNIL.out.1 hm0
                        have hz_ : RowKit.Hid (zz_ = -1) := Lib.hid (by rw [HZZ.out, if_pos hd0_])
                        have h0 : ((ml : Int) == 0) = true := by simp [hm0]
                        clear hm0
                        go_wp2_with (first | (at_builtin; (refine wpList_app rfl (.tmp 72) (.tmp 73) 26 rfl w3.heap.size 3 i0 (.int .i64 0) 1 8 und_ints Hi.out Hz0.out Hz1.out Hz2.out rfl (by decide) _ t _ rfl (HM10.out.oi.alloc _) ⟨w10.heap.size, 0, none⟩ 1 1 [.int .i64 (-1)] rfl rfl (cell_one_new _ _ _) (by intro q hq; simp at hq; subst hq; rfl) (by unfold maxLen; omega) (by omega) (by simp; omega) ?_; intro v11 w11 hown11 hgr11 hfr11; have hb11 : Below w3.heap.size (w10.alloc (.cells #[.int .i64 (-1)] 3)) w11 := (Below.refl _ _).grown hgr11 (by simp; omega) (fun g hg => (HM10.out.oi.lt g hg).1); have e11 : w11.cell? ⟨T, 2, none⟩ = some (.slice na t nc) := (olds hb11 _ _ hT3).trans ((olds (below1 w10 _) _ _ zt10).trans u2); have f11 : w11.frozen? ⟨T, 2, none⟩ = false := (oldf hb11 _ _ hT3).trans ((oldf (below1 w10 _) _ _ zt10).trans (uf 2)); have zt11 : T < w11.heap.size := (by have := hb11.size; simp at this; omega); obtain ⟨ia, ic, rfl⟩ := own_slice hown11)) | (at_builtin; have hstop := hgr11; refine Classical.byContradiction fun hgoal => ?_))
                        refine hgoal ?_
                        clear hgoal hstop
                        have hr11 := ((((HM10.out.below (below1 w10 (.cells #[.int .i64 (-1)] 3))).asks.keptI (HM10.out.oi.alloc _) hgr11 HM10.out.f2).setlow (o := 2) (u := .slice ia (t + 1) ic) hT3))
                        have hmr := ((((HMORE.out.below (below1 w10 (.cells #[.int .i64 (-1)] 3))).base hWsz).keptI (HM10.out.oi.alloc _) hgr11 HVM.out).setlow (o := 2) (u := .slice ia (t + 1) ic) hT3)
                        have hr11o := hr11.own
                        rw [← HR.out] at hr11o
                        have hmro := hmr.own
                        rw [← HML.out] at hmro
                        refine wpList_app2 rfl (.tmp 86) (.tmp 87) 27 rfl w3.heap.size 59 q0 _ 3 56 und_asks Qi.out Qz0.out Qz1.out Qz2.out rfl (by decide) _ R _ rfl hr11o ma ml mc (os10.flatMap askC) rfl (by rw [flat3_len, HMORE.out.len, HML.out]) (own_news hmro).1 (own_news hmro).2 HMORE.out.cell1 (by unfold maxLen; omega) (by omega) (by have := hb11.size; simp at this; simp; omega) ?_
                        intro v12 w12 hown12 hgr12 hat12
                        have hst : stepF A m 12 n (gs.take (t + 1)) = ((stepF A m 12 n (gs.take t)).1 ++ [zz_], (stepF A m 12 n (gs.take t)).2 ++ planF A m 13 g.2 (n + 1 + R)) := by
                          rw [List.take_succ_eq_append_getElem htl, stepF_snoc, ← HG.out, ← HR.out, planF_12, HZZ.out]
                        have hzv : (zs ++ [(y, c5, d5)]).map (·.1) = (gs.take (t + 1)).map (·.1) := by
                          rw [List.take_succ_eq_append_getElem htl, List.map_append, List.map_append, HI.out.zv, ← HG.out, HY.out]; rfl
                        have hPI := HM.out.fin (z := zz_) hT3 hwT rfl HB10.out HMORE.out (by rw [hz_.out]; exact hown11) hgr11 hfr11 (by rw [← HR.out, ← HML.out]; exact hown12) hgr12 hzv hst
                        have HPI := Lib.hid hPI
                        clear hPI hst hzv hown11 hgr11 hfr11 hown12 hgr12 hat12 hr11 hmr hr11o hmro
                        go_wp2
                        exact ⟨⟨t + 1, _, _, _, _, by omega, by go_num, HPI.out⟩, by simp [intOf]; omega⟩
                      · have hd0_ := fun h => hm0 (HNIL.out.2 h)
                        have hz_ : RowKit.Hid (zz_ = ((n + 1 + R : Nat) : Int)) := Lib.hid (by rw [HZZ.out, if_neg hd0_])
                        have h0 : ((ml : Int) == 0) = false := by rw [beq_eq_false_iff_ne]; omega
                        go_wp2_with (first | (at_builtin; (refine wpList_app rfl (.tmp 77) (.tmp 83) 26 rfl w3.heap.size 3 i0 (.int .i64 0) 1 8 und_ints Hi.out Hz0.out Hz1.out Hz2.out rfl (by decide) _ t _ rfl (HM10.out.oi.alloc _) ⟨w10.heap.size, 0, none⟩ 1 1 [.int .i64 ((n : Int) + 1 + R)] rfl rfl (cell_one_new _ _ _) (by intro q hq; simp at hq; subst hq; rfl) (by unfold maxLen; omega) (by omega) (by simp; omega) ?_; intro v11 w11 hown11 hgr11 hfr11; have hb11 : Below w3.heap.size (w10.alloc (.cells #[.int .i64 ((n : Int) + 1 + R)] 3)) w11 := (Below.refl _ _).grown hgr11 (by simp; omega) (fun g hg => (HM10.out.oi.lt g hg).1); have e11 : w11.cell? ⟨T, 2, none⟩ = some (.slice na t nc) := (olds hb11 _ _ hT3).trans ((olds (below1 w10 _) _ _ zt10).trans u2); have f11 : w11.frozen? ⟨T, 2, none⟩ = false := (oldf hb11 _ _ hT3).trans ((oldf (below1 w10 _) _ _ zt10).trans (uf 2)); have zt11 : T < w11.heap.size := (by have := hb11.size; simp at this; omega); obtain ⟨ia, ic, rfl⟩ := own_slice hown11)) | (at_builtin; have hstop := hgr11; refine Classical.byContradiction fun hgoal => ?_))
                        refine hgoal ?_
                        clear hgoal hstop
                        have hr11 := ((((HM10.out.below (below1 w10 (.cells #[.int .i64 ((n : Int) + 1 + R)] 3))).asks.keptI (HM10.out.oi.alloc _) hgr11 HM10.out.f2).setlow (o := 2) (u := .slice ia (t + 1) ic) hT3))
                        have hmr := ((((HMORE.out.below (below1 w10 (.cells #[.int .i64 ((n : Int) + 1 + R)] 3))).base hWsz).keptI (HM10.out.oi.alloc _) hgr11 HVM.out).setlow (o := 2) (u := .slice ia (t + 1) ic) hT3)
                        have hr11o := hr11.own
                        rw [← HR.out] at hr11o
                        have hmro := hmr.own
                        rw [← HML.out] at hmro
                        refine wpList_app2 rfl (.tmp 86) (.tmp 87) 27 rfl w3.heap.size 59 q0 _ 3 56 und_asks Qi.out Qz0.out Qz1.out Qz2.out rfl (by decide) _ R _ rfl hr11o ma ml mc (os10.flatMap askC) rfl (by rw [flat3_len, HMORE.out.len, HML.out]) (own_news hmro).1 (own_news hmro).2 HMORE.out.cell1 (by unfold maxLen; omega) (by omega) (by have := hb11.size; simp at this; simp; omega) ?_
                        intro v12 w12 hown12 hgr12 hat12
                        have hst : stepF A m 12 n (gs.take (t + 1)) = ((stepF A m 12 n (gs.take t)).1 ++ [zz_], (stepF A m 12 n (gs.take t)).2 ++ planF A m 13 g.2 (n + 1 + R)) := by
                          rw [List.take_succ_eq_append_getElem htl, stepF_snoc, ← HG.out, ← HR.out, planF_12, HZZ.out]
                        have hzv : (zs ++ [(y, c5, d5)]).map (·.1) = (gs.take (t + 1)).map (·.1) := by
                          rw [List.take_succ_eq_append_getElem htl, List.map_append, List.map_append, HI.out.zv, ← HG.out, HY.out]; rfl
                        have hPI := HM.out.fin (z := zz_) hT3 hwT rfl HB10.out HMORE.out (by rw [hz_.out]; exact hown11) hgr11 hfr11 (by rw [← HR.out, ← HML.out]; exact hown12) hgr12 hzv hst
                        have HPI := Lib.hid hPI
                        clear hPI hst hzv hown11 hgr11 hfr11 hown12 hgr12 hat12 hr11 hmr hr11o hmro
                        go_wp2
                        exact ⟨⟨t + 1, _, _, _, _, by omega, by go_num, HPI.out⟩, by simp [intOf]; omega⟩
                    exact AllReadyH.nil
                  exact AllReadyH.nil
                exact AllReadyH.nil
              refine AllReadyH.cons rfl (fun K hK => ?_) ?_
              · go_simp
                clear hHeld
                refine hK.out _ _ ?_ (fun hHeld => ?_)
                · (first | (refine fun b o hb _ => olds (Below.mono (B := wr.heap.size) ?_ hsz3) b o hb; (repeat (first | with_reducible exact Below.refl _ _ | with_reducible assumption | with_reducible refine Below.drew ?_ | with_reducible refine Below.alloc ?_ (by first | omega | (simp; done) | (simp; omega)) _ | with_reducible refine Below.setCell ?_ (by first | omega | (simp; done) | (simp; omega)) _)); done) | (refine fun b o hb _ => olds ?_ b o hb; (repeat (first | with_reducible exact Below.refl _ _ | with_reducible assumption | with_reducible refine Below.drew ?_ | with_reducible refine Below.alloc ?_ (by first | omega | (simp; done) | (simp; omega)) _ | with_reducible refine Below.setCell ?_ (by first | omega | (simp; done) | (simp; omega)) _)); done) | exact fun b o hb hne => (World.cell?_of_block (Below.heap_setCell _ _ _ _ hne)).trans (olds hb9 b o hb))
                clear hK K
                refine wpAnyH_ready (rs := [1]) (by kernel_rfl) (by simp) ?_
                refine AllReadyH.cons rfl (fun K hK => ?_) ?_
                · go_simp
                  clear hHeld
                  refine hK.out _ _ ?_ (fun hHeld => ?_)
                  · (first | (refine fun b o hb _ => olds (Below.mono (B := wr.heap.size) ?_ hsz3) b o hb; (repeat (first | with_reducible exact Below.refl _ _ | with_reducible assumption | with_reducible refine Below.drew ?_ | with_reducible refine Below.alloc ?_ (by first | omega | (simp; done) | (simp; omega)) _ | with_reducible refine Below.setCell ?_ (by first | omega | (simp; done) | (simp; omega)) _)); done) | (refine fun b o hb _ => olds ?_ b o hb; (repeat (first | with_reducible exact Below.refl _ _ | with_reducible assumption | with_reducible refine Below.drew ?_ | with_reducible refine Below.alloc ?_ (by first | omega | (simp; done) | (simp; omega)) _ | with_reducible refine Below.setCell ?_ (by first | omega | (simp; done) | (simp; omega)) _)); done) | exact fun b o hb hne => (World.cell?_of_block (Below.heap_setCell _ _ _ _ hne)).trans (olds hb9 b o hb))
                  clear hK K
                  refine wpAnyH_ready (rs := [16]) (by kernel_rfl) (by simp) ?_
                  refine AllReadyH.cons rfl (fun K hK => ?_) ?_
                  · refine step_append_lies _ (by rfl) _ _ _ (by rfl) w3.heap.size 47 j0 _ 7 96 und_vals Ji.out Jz0.out Jz1.out Jz2.out rfl (by decide) _ t (cvs zs) (by rfl) (own_below HOV.out (by repeat (first | with_reducible exact Below.refl _ _ | with_reducible assumption | with_reducible refine Below.drew ?_ | with_reducible refine Below.alloc ?_ (by first | omega | (simp; done) | (simp; omega)) _ | with_reducible refine Below.setCell ?_ (by first | omega | (simp; done) | (simp; omega)) _))) ⟨w5.heap.size, 0, none⟩ 1 1 (cv (y, c5, d5)) (by rfl) rfl (One.cells (heap_alloc_new _ _)) (cvs_one' (y, c5, d5)) (by decide) (by unfold maxLen; omega) (by omega) (by simp; omega) _ rfl ?_; intro g9 cap9 w9 hown9 hgr9 hat9 hgl9; have hb9 : Below w3.heap.size wr w9 := Below.grown (Below.mono (by repeat (first | with_reducible exact Below.refl _ _ | with_reducible assumption | with_reducible refine Below.drew ?_ | with_reducible refine Below.alloc ?_ (by first | omega | (simp; done) | (simp; omega)) _ | with_reducible refine Below.setCell ?_ (by first | omega | (simp; done) | (simp; omega)) _)) hsz3) hgr9 (by simp; omega) (fun g hg => (HOV.out.lt g hg).1); have e9 : w9.cell? ⟨T, 1, none⟩ = some (.slice va_ t vc) := (olds hb9 _ _ hT3).trans et1; have f9 : w9.frozen? ⟨T, 1, none⟩ = false := (oldf hb9 _ _ hT3).trans (ft 1); have zt9 : T < w9.heap.size := Nat.lt_of_lt_of_le hTr hb9.size
                    clear hHeld
                    refine hK.out _ _ ?_ (fun hHeld => ?_)
                    · (first | (refine fun b o hb _ => olds (Below.mono (B := wr.heap.size) ?_ hsz3) b o hb; (repeat (first | with_reducible exact Below.refl _ _ | with_reducible assumption | with_reducible refine Below.drew ?_ | with_reducible refine Below.alloc ?_ (by first | omega | (simp; done) | (simp; omega)) _ | with_reducible refine Below.setCell ?_ (by first | omega | (simp; done) | (simp; omega)) _)); done) | (refine fun b o hb _ => olds ?_ b o hb; (repeat (first | with_reducible exact Below.refl _ _ | with_reducible assumption | with_reducible refine Below.drew ?_ | with_reducible refine Below.alloc ?_ (by first | omega | (simp; done) | (simp; omega)) _ | with_reducible refine Below.setCell ?_ (by first | omega | (simp; done) | (simp; omega)) _)); done) | exact fun b o hb hne => (World.cell?_of_block (Below.heap_setCell _ _ _ _ hne)).trans (olds hb9 b o hb))
                    clear hK K
                    refine wpAnyH_take (i := 17) (v := ?_) rfl (by kernel_rfl) (by kernel_rfl) (by kernel_rfl) (fun _ _ _ h => h) (Or.inl ⟨by rfl, ?_⟩) (by assumption) ?_
                    rotate_left
                    · intro w hSw; (try dsimp only [List.getElem_toArray, List.getElem_cons_succ, List.getElem_cons_zero] at hSw ⊢); go_simp; (try with_reducible rfl)
                    (try dsimp only [List.getElem_toArray, List.getElem_cons_succ, List.getElem_cons_zero]); (try simp only [Act.put, List.setIfInBounds_toArray, List.set_cons_zero, List.set_cons_succ])
                    refine wpAnyH_ready (rs := [18]) (by kernel_rfl) (by simp) ?_
                    refine AllReadyH.cons rfl (fun K hK => ?_) ?_
                    · go_simp
                      clear hHeld
                      refine hK.out _ _ ?_ (fun hHeld => ?_)
                      · (first | (refine fun b o hb _ => olds (Below.mono (B := wr.heap.size) ?_ hsz3) b o hb; (repeat (first | with_reducible exact Below.refl _ _ | with_reducible assumption | with_reducible refine Below.drew ?_ | with_reducible refine Below.alloc ?_ (by first | omega | (simp; done) | (simp; omega)) _ | with_reducible refine Below.setCell ?_ (by first | omega | (simp; done) | (simp; omega)) _)); done) | (refine fun b o hb _ => olds ?_ b o hb; (repeat (first | with_reducible exact Below.refl _ _ | with_reducible assumption | with_reducible refine Below.drew ?_ | with_reducible refine Below.alloc ?_ (by first | omega | (simp; done) | (simp; omega)) _ | with_reducible refine Below.setCell ?_ (by first | omega | (simp; done) | (simp; omega)) _)); done) | exact fun b o hb hne => (World.cell?_of_block (Below.heap_setCell _ _ _ _ hne)).trans (olds hb9 b o hb))
                      clear hK K
                      refine wpAnyH_done (by kernel_rfl) ?_ _
                      have hM := HI.out.mid (z := (y, c5, d5)) hT3 hwT rfl (by repeat (first | with_reducible exact Below.refl _ _ | with_reducible assumption | with_reducible refine Below.drew ?_ | with_reducible refine Below.alloc ?_ (by first | omega | (simp; done) | (simp; omega)) _ | with_reducible refine Below.setCell ?_ (by first | omega | (simp; done) | (simp; omega)) _)) hown9 hgr9 hat9
                      have hgo9 : go < w9.heap.size := Nat.lt_of_lt_of_le hgo3 (Nat.le_trans hsz3 hb9.size)
                      have hcu9 : w9.cell? ⟨go, t, none⟩ = some (.slice (some ⟨gu, 0, none⟩) ql cu) := (olds hb9 _ _ hgo3).trans hcu
                      have HM := Lib.hid hM
                      clear hM hown9 hgr9 hat9 hb5 et1_ hb5'
                      go_wp2_with fail
                      obtain ⟨W, hW⟩ : ∃ W, W = w9.setCell ⟨T, 1, none⟩ (.slice (some ⟨g9, 0, none⟩) (t + 1) cap9) := ⟨_, rfl⟩
                      have HM : RowKit.Hid (PMid A m n k T w3.heap.size w w3 gs t (.slice ra R rc) (.slice (some ⟨g9, 0, none⟩) (t + 1) cap9) (.slice na t nc) os (zs ++ [(y, c5, d5)]) W) := Lib.hid (by rw [hW, HR.out]; exact HM.out)
                      rw [← hW]
                      have eN : (n : Int) + 1 + R = ((n + 1 + R : Nat) : Int) := by omega
                      rw [eN]
                      clear eN
                      have hcd := HCARD.out
                      refine (HP.out g.2 HSET.out HCARD.out W _ _ (n + 1 + R) (by omega) (HA.out.mono HM.out.bl) (HIU.out W HM.out.kt)).mono ?_
                      rintro e w10 ⟨v10, os10, rfl, hm10, hb10⟩
                      dsimp only
                      obtain ⟨ma, mc, rfl⟩ := own_slice hm10.own
                      obtain ⟨ml, hml⟩ : ∃ ml, ml = (planF A m 13 g.2 (n + 1 + R)).length := ⟨_, rfl⟩
                      rw [← hml]
                      have hml12 : ml ≤ 12 := by rw [hml]; have := planF_len A m 13 g.2 (n + 1 + R); omega
                      have hnil := planF_nil A m g.2 (n + 1 + R)
                      rw [← hml] at hnil
                      have HM10 := Lib.hid (HM.out.below hb10)
                      have HMORE := Lib.hid hm10; have HML := Lib.hid hml; have HNIL := Lib.hid hnil; have HB10 := Lib.hid hb10
                      have u2 : w10.cell? ⟨T, 2, none⟩ = some (.slice na t nc) := cell_of_row _ _ _ _ _ _ HM10.out.blk
                      have uf : ∀ j, w10.frozen? ⟨T, j, none⟩ = false := fun j => frozen_cells HM10.out.blk j
                      have zt10 : T < w10.heap.size := (Array.getElem?_eq_some_iff.1 HM10.out.blk).1
                      have hs10 : w3.heap.size ≤ w10.heap.size := HM10.out.kt.size
                      have hWsz : w3.heap.size ≤ W.heap.size := HM.out.kt.size
                      have hvm : ∀ (i : Nat) (u : Value) (g : Nat), (os10.map (·.2.2))[i]? = some u → u.ownBlock = some g → (Value.slice na t nc).ownBlock ≠ some g := by
                        intro i u g hu hg e
                        have h1 := (HMORE.out.lt2 hu hg).1
                        have h2 := (HM.out.oi.lt g e).2
                        omega
                      have HVM := Lib.hid hvm
                      obtain ⟨zz_, hzz⟩ : ∃ zz_ : Int, zz_ = if dep A m g.2 = 0 then -1 else ((n + 1 + R : Nat) : Int) := ⟨_, rfl⟩
                      have HZZ := Lib.hid hzz
                      clear hm10 hb10 hml hnil hW hvm hzz hgo9 hcu9 e9 f9 zt9 hb9 et0 et1 et2 ft
                      by_cases hm0 : ml = 0
                      · have hd0_ := HNIL.out.1 hm0
                        have hz_ : RowKit.Hid (zz_ = -1) := Lib.hid (by rw [HZZ.out, if_pos hd0_])
                        have h0 : ((ml : Int) == 0) = true := by simp [hm0]
                        clear hm0
                        go_wp2_with (first | (at_builtin; (refine wpList_app rfl (.tmp 72) (.tmp 73) 26 rfl w3.heap.size 3 i0 (.int .i64 0) 1 8 und_ints Hi.out Hz0.out Hz1.out Hz2.out rfl (by decide) _ t _ rfl (HM10.out.oi.alloc _) ⟨w10.heap.size, 0, none⟩ 1 1 [.int .i64 (-1)] rfl rfl (cell_one_new _ _ _) (by intro q hq; simp at hq; subst hq; rfl) (by unfold maxLen; omega) (by omega) (by simp; omega) ?_; intro v11 w11 hown11 hgr11 hfr11; have hb11 : Below w3.heap.size (w10.alloc (.cells #[.int .i64 (-1)] 3)) w11 := (Below.refl _ _).grown hgr11 (by simp; omega) (fun g hg => (HM10.out.oi.lt g hg).1); have e11 : w11.cell? ⟨T, 2, none⟩ = some (.slice na t nc) := (olds hb11 _ _ hT3).trans ((olds (below1 w10 _) _ _ zt10).trans u2); have f11 : w11.frozen? ⟨T, 2, none⟩ = false := (oldf hb11 _ _ hT3).trans ((oldf (below1 w10 _) _ _ zt10).trans (uf 2)); have zt11 : T < w11.heap.size := (by have := hb11.size; simp at this; omega); obtain ⟨ia, ic, rfl⟩ := own_slice hown11)) | (at_builtin; have hstop := hgr11; refine Classical.byContradiction fun hgoal => ?_))
                        refine hgoal ?_
                        clear hgoal hstop
                        have hr11 := ((((HM10.out.below (below1 w10 (.cells #[.int .i64 (-1)] 3))).asks.keptI (HM10.out.oi.alloc _) hgr11 HM10.out.f2).setlow (o := 2) (u := .slice ia (t + 1) ic) hT3))
                        have hmr := ((((HMORE.out.below (below1 w10 (.cells #[.int .i64 (-1)] 3))).base hWsz).keptI (HM10.out.oi.alloc _) hgr11 HVM.out).setlow (o := 2) (u := .slice ia (t + 1) ic) hT3)
                        have hr11o := hr11.own
                        rw [← HR.out] at hr11o
                        have hmro := hmr.own
                        rw [← HML.out] at hmro
                        refine wpList_app2 rfl (.tmp 86) (.tmp 87) 27 rfl w3.heap.size 59 q0 _ 3 56 und_asks Qi.out Qz0.out Qz1.out Qz2.out rfl (by decide) _ R _ rfl hr11o ma ml mc (os10.flatMap askC) rfl (by rw [flat3_len, HMORE.out.len, HML.out]) (own_news hmro).1 (own_news hmro).2 HMORE.out.cell1 (by unfold maxLen; omega) (by omega) (by have := hb11.size; simp at this; simp; omega) ?_
                        intro v12 w12 hown12 hgr12 hat12
                        have hst : stepF A m 12 n (gs.take (t + 1)) = ((stepF A m 12 n (gs.take t)).1 ++ [zz_], (stepF A m 12 n (gs.take t)).2 ++ planF A m 13 g.2 (n + 1 + R)) := by
                          rw [List.take_succ_eq_append_getElem htl, stepF_snoc, ← HG.out, ← HR.out, planF_12, HZZ.out]
                        have hzv : (zs ++ [(y, c5, d5)]).map (·.1) = (gs.take (t + 1)).map (·.1) := by
                          rw [List.take_succ_eq_append_getElem htl, List.map_append, List.map_append, HI.out.zv, ← HG.out, HY.out]; rfl
                        have hPI := HM.out.fin (z := zz_) hT3 hwT rfl HB10.out HMORE.out (by rw [hz_.out]; exact hown11) hgr11 hfr11 (by rw [← HR.out, ← HML.out]; exact hown12) hgr12 hzv hst
                        have HPI := Lib.hid hPI
                        clear hPI hst hzv hown11 hgr11 hfr11 hown12 hgr12 hat12 hr11 hmr hr11o hmro
                        go_wp2
                        exact ⟨⟨t + 1, _, _, _, _, by omega, by go_num, HPI.out⟩, by simp [intOf]; omega⟩
                      · have hd0_ := fun h => hm0 (HNIL.out.2 h)
                        have hz_ : RowKit.Hid (zz_ = ((n + 1 + R : Nat) : Int)) := Lib.hid (by rw [HZZ.out, if_neg hd0_])
                        have h0 : ((ml : Int) == 0) = false := by rw [beq_eq_false_iff_ne]; omega
                        go_wp2_with (first | (at_builtin; (refine wpList_app rfl (.tmp 77) (.tmp 83) 26 rfl w3.heap.size 3 i0 (.int .i64 0) 1 8 und_ints Hi.out Hz0.out Hz1.out Hz2.out rfl (by decide) _ t _ rfl (HM10.out.oi.alloc _) ⟨w10.heap.size, 0, none⟩ 1 1 [.int .i64 ((n : Int) + 1 + R)] rfl rfl (cell_one_new _ _ _) (by intro q hq; simp at hq; subst hq; rfl) (by unfold maxLen; omega) (by omega) (by simp; omega) ?_; intro v11 w11 hown11 hgr11 hfr11; have hb11 : Below w3.heap.size (w10.alloc (.cells #[.int .i64 ((n : Int) + 1 + R)] 3)) w11 := (Below.refl _ _).grown hgr11 (by simp; omega) (fun g hg => (HM10.out.oi.lt g hg).1); have e11 : w11.cell? ⟨T, 2, none⟩ = some (.slice na t nc) := (olds hb11 _ _ hT3).trans ((olds (below1 w10 _) _ _ zt10).trans u2); have f11 : w11.frozen? ⟨T, 2, none⟩ = false := (oldf hb11 _ _ hT3).trans ((oldf (below1 w10 _) _ _ zt10).trans (uf 2)); have zt11 : T < w11.heap.size := (by have := hb11.size; simp at this; omega); obtain ⟨ia, ic, rfl⟩ := own_slice hown11)) | (at_builtin; have hstop := hgr11; refine Classical.byContradiction fun hgoal => ?_))
                        refine hgoal ?_
                        clear hgoal hstop
                        have hr11 := ((((HM10.out.below (below1 w10 (.cells #[.int .i64 ((n : Int) + 1 + R)] 3))).asks.keptI (HM10.out.oi.alloc _) hgr11 HM10.out.f2).setlow (o := 2) (u := .slice ia (t + 1) ic) hT3))
                        have hmr := ((((HMORE.out.below (below1 w10 (.cells #[.int .i64 ((n : Int) + 1 + R)] 3))).base hWsz).keptI (HM10.out.oi.alloc _) hgr11 HVM.out).setlow (o := 2) (u := .slice ia (t + 1) ic) hT3)
                        have hr11o := hr11.own
                        rw [← HR.out] at hr11o
                        have hmro := hmr.own
                        rw [← HML.out] at hmro
                        refine wpList_app2 rfl (.tmp 86) (.tmp 87) 27 rfl w3.heap.size 59 q0 _ 3 56 und_asks Qi.out Qz0.out Qz1.out Qz2.out rfl (by decide) _ R _ rfl hr11o ma ml mc (os10.flatMap askC) rfl (by rw [flat3_len, HMORE.out.len, HML.out]) (own_news hmro).1 (own_news hmro).2 HMORE.out.cell1 (by unfold maxLen; omega) (by omega) (by have := hb11.size; simp at this; simp; omega) ?_
                        intro v12 w12 hown12 hgr12 hat12
                        have hst : stepF A m 12 n (gs.take (t + 1)) = ((stepF A m 12 n (gs.take t)).1 ++ [zz_], (stepF A m 12 n (gs.take t)).2 ++ planF A m 13 g.2 (n + 1 + R)) := by
                          rw [List.take_succ_eq_append_getElem htl, stepF_snoc, ← HG.out, ← HR.out, planF_12, HZZ.out]
                        have hzv : (zs ++ [(y, c5, d5)]).map (·.1) = (gs.take (t + 1)).map (·.1) := by
                          rw [List.take_succ_eq_append_getElem htl, List.map_append, List.map_append, HI.out.zv, ← HG.out, HY.out]; rfl
                        have hPI := HM.out.fin (z := zz_) hT3 hwT rfl HB10.out HMORE.out (by rw [hz_.out]; exact hown11) hgr11 hfr11 (by rw [← HR.out, ← HML.out]; exact hown12) hgr12 hzv hst
                        have HPI := Lib.hid hPI
                        clear hPI hst hzv hown11 hgr11 hfr11 hown12 hgr12 hat12 hr11 hmr hr11o hmro
                        go_wp2
                        exact ⟨⟨t + 1, _, _, _, _, by omega, by go_num, HPI.out⟩, by simp [intOf]; omega⟩
                    exact AllReadyH.nil
                  exact AllReadyH.nil
                exact AllReadyH.nil
              exact AllReadyH.nil
            exact AllReadyH.nil
          · obtain rfl : t = gs.length := by omega
            obtain ⟨va_, vc, rfl⟩ := own_slice hI.ov
            obtain ⟨na, nc, rfl⟩ := own_slice hI.oi
            have hro := hI.asks.own
            rw [← HR.out] at hro
            have hro2 := own_below hro (below1 wr (.cells (askC (k, .slice va_ gs.length vc, .slice na gs.length nc)).toArray 59))
            have HRO := Lib.hid hro2
            clear hI hro hro2
            go_wp2_with (at_builtin; refine wpList_app2 rfl (.tmp 90) (.tmp 91) 27 rfl w3.heap.size 59 q0 _ 3 56 und_asks Qi.out Qz0.out Qz1.out Qz2.out rfl (by decide) _ 1 _ rfl (own_newH wr w3.heap.size 59 3 1 (askC (k, .slice va_ gs.length vc, .slice na gs.length nc)) wr.heap.size rfl hsz3 rfl (by decide)) ra R rc (os.flatMap askC) rfl (by rw [flat3_len, HI.out.asks.len, ← HR.out]) (own_news HRO.out).1 (own_news HRO.out).2 HI.out.asks.cell1 (by unfold maxLen; omega) (by omega) (by simp; omega) ?_; intro v12 w12 hown12 hgr12 hat12)
            have hbA := below1 wr (.cells (askC (k, .slice va_ gs.length vc, .slice na gs.length nc)).toArray 59)
            have hone := AsksAt.one (a := (k, gs.map (·.1), (stepF A m 12 n gs).1)) (o := (k, .slice va_ gs.length vc, .slice na gs.length nc)) (zs := zs) rfl (by have := HI.out.zv; rwa [List.take_length] at this) (by rw [List.length_map]; exact own_below HI.out.ov hbA) (by have h := own_below HI.out.oi hbA; rw [List.take_length] at h; rw [stepF_len]; exact h)
              (own_newH wr w3.heap.size 59 3 1 (askC (k, .slice va_ gs.length vc, .slice na gs.length nc)) wr.heap.size rfl hsz3 rfl (by decide))
            have hall := hone.join (HI.out.asks.below hbA) (fun i j u u' g hu hu' hg hg' => by
                match i, hu with
                | 0, hu => cases hu; exact HI.out.f1 j u' g hu' hg' hg
                | i + 1, hu => simp at hu) (fun i j u u' g hu hu' hg hg' => by
                match i, hu with
                | 0, hu => cases hu; exact HI.out.f2 j u' g hu' hg' hg
                | i + 1, hu => simp at hu) hgr12 (by have h := hown12; rw [HR.out] at h; simpa using h)
            have hbl := (HI.out.bl.trans (hbA.mono HI.out.bl.size)).grown hgr12 (by simp; omega) (fun g hg => by have e2 : wr.heap.size = g := Option.some.inj hg; omega)
            have hpf : PF = [(k, gs.map (·.1), (stepF A m 12 n gs).1)] ++ (stepF A m 12 n (gs.take gs.length)).2 := by rw [HPFS.out, List.take_length, HGS.out]; rfl
            have HALL := Lib.hid hall; have HBLF := Lib.hid hbl; have HPF2 := Lib.hid hpf
            clear hone hall hbl hpf hown12 hgr12 hat12 hbA
            go_wp2
            go_ret
            exact ⟨_, _, rfl, by rw [HPF2.out]; exact HALL.out.base (by omega), HBLF.out⟩
theorem planR_call (A : List (List Nat)) (m : Nat) (hok : Ok A m) : ∀ s, s < 2 ^ A.length → PlanR A m s := by
  have key : ∀ n s, (bitsOf s).length < n → s < 2 ^ A.length → PlanR A m s := by
    intro n
    induction n with
    | zero => intro s h; omega
    | succ n ih =>
      intro s h hs
      exact planR_step A m s hok hs fun t ht hlt => ih t (by omega) ht
  exact fun s hs => key _ s (Nat.lt_succ_self _) hs
end Go.Proofs.YtoiemkifgdnhaaaGreatDoor
namespace Go.Proofs.YtoiemkifgdnhaaaGreatDoor
open Go Go.RowKit
set_option maxRecDepth 100000 in
set_option maxHeartbeats 1000000 in
theorem MakeR_bad (w : World) (a : Value) (A : List (List Nat)) (h : Int) (ha : ValRows w a A) (hp : permS A h ≠ 0) : Calls Tryz.prog 13 #[a, .int .i64 h] w (MakePost A h w) := by
  have HA := Lib.hid ha
  obtain ⟨ao, ac, rfl, ha1⟩ := ha.1.open
  have he : makeE A h = permS A h := by unfold makeE; rw [if_pos hp]
  have hs : makeS A h = ⟨[], 0, 0⟩ := by unfold makeS; rw [if_neg (by rw [he]; exact hp)]
  obtain ⟨p, hpp⟩ : ∃ p, p = permS A h := ⟨_, rfl⟩
  rw [← hpp] at hp he
  have e0 : (p != 0) = true := by simpa using hp
  have HP := Lib.hid hpp; have HE := Lib.hid he; have HS := Lib.hid hs
  clear ha hpp hp he hs
  go_enter Tryz.func13, Tryz.ntmps13
  go_wp2_with fail
  refine (permR_call _ _ A h (HA.out.mono (below1 _ _))).mono ?_
  rintro e w1 ⟨rfl, hb1⟩
  rw [← HP.out]
  have t1 := (Tri.new w (.slice none 0 0) (.int .i64 0) (.int .i64 0) 29).mono hb1
  have hbw := bstep (Below.refl w.heap.size w) hb1
  obtain ⟨c0, c1, c2, cf, cl⟩ := t1
  clear hb1
  go_wp2_with fail
  refine bodyPost_ret (v := .tuple #[.agg #[.slice none 0 0, .int .i64 0, .int .i64 0], .int .i64 p]) ?_ rfl ?_
  · simp [results, Tryz.results13, go_sem, c0, c1, c2, cf, cl]
  · exact ⟨_, by rw [HE.out], by rw [HS.out]; exact ⟨_, [], rfl, AsksAt.nil _ _⟩, ((hbw.setCell (by simp) _).setCell (by simp) _).setCell (by simp) _⟩
set_option maxRecDepth 100000 in
set_option maxHeartbeats 1000000 in
theorem MakeR_far (w : World) (a : Value) (A : List (List Nat)) (h : Int) (ha : ValRows w a A) (hp : permS A h = 0) (hd : h < (dep A (inputsS A) (fullS A) : Nat)) : Calls Tryz.prog 13 #[a, .int .i64 h] w (MakePost A h w) := by
  have HA := Lib.hid ha
  obtain ⟨ao, ac, rfl, ha1⟩ := ha.1.open
  obtain ⟨hr, h0, h6, h12, h10⟩ := perm_ok hp
  have hok := ok_of hr h12 h10
  have he : makeE A h = 16 := by rw [makeE_at hp, if_pos hd]
  have hs : makeS A h = ⟨[], 0, 0⟩ := by unfold makeS; rw [if_neg (by rw [he]; omega)]
  have hfl := (full_val h12).2
  have hfb : bitsOf (fullS A) = List.range A.length := bits_full h12
  have hdl := dep_le A (inputsS A) (fullS A)
  have hdc := fun (w : World) (a l : Value) (ha : ValRows w a A) (hl : Ints w l (pInts (List.range A.length))) => depthR_call A (inputsS A) hok (fullS A) hfl w a l ha (by rw [hfb]; exact hl)
  obtain ⟨d, hdd⟩ : ∃ d, d = dep A (inputsS A) (fullS A) := ⟨_, rfl⟩
  rw [← hdd] at hd hdc hdl
  have hgt : (d : Int) > h := by omega
  have HE := Lib.hid he; have HS := Lib.hid hs; have HDC := Lib.hid hdc
  have HP := Lib.hid hp
  clear ha hp he hs hok hfb hdc hdd hr hd
  go_enter Tryz.func13, Tryz.ntmps13
  go_wp2_with fail
  refine (permR_call _ _ A h (HA.out.mono (below1 _ _))).mono ?_
  rintro e w1 ⟨rfl, hb1⟩
  rw [HP.out]
  have t1 := (Tri.new w (.slice none 0 0) (.int .i64 0) (.int .i64 0) 29).mono hb1
  have hbw := bstep (Below.refl w.heap.size w) hb1
  have HT := Lib.hid t1; have HBW := Lib.hid hbw
  clear hb1 t1 hbw
  go_wp2_with fail
  refine (All_call _ _ (by omega)).mono ?_
  rintro e w2 ⟨v2, rfl, ho2, hb2⟩
  have hi2 := own_ints ho2 (by rw [upTo_len]; omega) (by rw [upTo_p]; exact pInts_ok (n := A.length) (fun p hp => by simpa using hp) (by omega))
  rw [upTo_p] at hi2
  have HB2 := Lib.hid (bthen HBW.out hb2); have HI2 := Lib.hid hi2; have HT2 := Lib.hid (HT.out.mono hb2)
  clear ho2 hb2 hi2
  go_wp2_with fail
  refine (HDC.out _ _ _ (HA.out.mono HB2.out) HI2.out).mono ?_
  rintro e w3 ⟨rfl, hb3⟩
  have hbw3 := bthen HB2.out hb3
  obtain ⟨c0, c1, c2, cf, cl⟩ := HT2.out.mono hb3
  clear hb3
  go_wp2_with fail
  refine bodyPost_ret (v := .tuple #[.agg #[.slice none 0 0, .int .i64 0, .int .i64 0], .int .i64 16]) ?_ rfl ?_
  · simp [results, Tryz.results13, go_sem, c0, c1, c2, cf, cl]
  · exact ⟨_, by rw [HE.out], by rw [HS.out]; exact ⟨_, [], rfl, AsksAt.nil _ _⟩, ((hbw3.setCell (by simp) _).setCell (by simp) _).setCell (by simp) _⟩
set_option maxRecDepth 100000 in
set_option maxHeartbeats 1000000 in
theorem MakeR_ok (w : World) (a : Value) (A : List (List Nat)) (h : Int) (ha : ValRows w a A) (hp : permS A h = 0) (hd : ¬ h < (dep A (inputsS A) (fullS A) : Nat)) : Calls Tryz.prog 13 #[a, .int .i64 h] w (MakePost A h w) := by
  have HA := Lib.hid ha
  obtain ⟨ao, ac, rfl, ha1⟩ := ha.1.open
  obtain ⟨hr, h0, h6, h12, h10⟩ := perm_ok hp
  have hok := ok_of hr h12 h10
  have he : makeE A h = 0 := by rw [makeE_at hp, if_neg hd]
  have hs : makeS A h = makeP A := by unfold makeS; rw [if_pos he]
  have hfl := (full_val h12).2
  have hfb : bitsOf (fullS A) = List.range A.length := bits_full h12
  have hdl := dep_le A (inputsS A) (fullS A)
  have hdc := fun (w : World) (a l : Value) (ha : ValRows w a A) (hl : Ints w l (pInts (List.range A.length))) => depthR_call A (inputsS A) hok (fullS A) hfl w a l ha (by rw [hfb]; exact hl)
  obtain ⟨d, hdd⟩ : ∃ d, d = dep A (inputsS A) (fullS A) := ⟨_, rfl⟩
  rw [← hdd] at hd hdc hdl
  have hgt : ¬ (d : Int) > h := by omega
  have hmd : (makeP A).depth = d := hdd.symm
  have HMD := Lib.hid hmd
  have hpl := fun (w : World) (a l : Value) (ha : ValRows w a A) (hl : Ints w l (pInts (List.range A.length))) => planR_call A (inputsS A) hok (fullS A) hfl w a l 0 (by have := bits_len (fullS A); omega) ha (by rw [hfb]; exact hl)
  have HPL := Lib.hid hpl; have HR := Lib.hid hr
  have HE := Lib.hid he; have HS := Lib.hid hs; have HDC := Lib.hid hdc
  have HP := Lib.hid hp
  clear ha hp he hs hok hfb hdc hdd hr hd hmd hpl
  go_enter Tryz.func13, Tryz.ntmps13
  go_wp2_with fail
  refine (permR_call _ _ A h (HA.out.mono (below1 _ _))).mono ?_
  rintro e w1 ⟨rfl, hb1⟩
  rw [HP.out]
  have t1 := (Tri.new w (.slice none 0 0) (.int .i64 0) (.int .i64 0) 29).mono hb1
  have hbw := bstep (Below.refl w.heap.size w) hb1
  have HT := Lib.hid t1; have HBW := Lib.hid hbw
  clear hb1 t1 hbw
  go_wp2_with fail
  refine (All_call _ _ (by omega)).mono ?_
  rintro e w2 ⟨v2, rfl, ho2, hb2⟩
  have hi2 := own_ints ho2 (by rw [upTo_len]; omega) (by rw [upTo_p]; exact pInts_ok (n := A.length) (fun p hp => by simpa using hp) (by omega))
  rw [upTo_p] at hi2
  have HB2 := Lib.hid (bthen HBW.out hb2); have HI2 := Lib.hid hi2; have HT2 := Lib.hid (HT.out.mono hb2)
  clear ho2 hb2 hi2
  go_wp2_with fail
  refine (HDC.out _ _ _ (HA.out.mono HB2.out) HI2.out).mono ?_
  rintro e w3 ⟨rfl, hb3⟩
  have HB3 := Lib.hid (bthen HB2.out hb3); have HT3 := Lib.hid (HT2.out.mono hb3)
  clear hb3
  go_wp2_with fail
  refine (All_call _ _ (by omega)).mono ?_
  rintro e w4 ⟨v4, rfl, ho4, hb4⟩
  have hi4 := own_ints ho4 (by rw [upTo_len]; omega) (by rw [upTo_p]; exact pInts_ok (n := A.length) (fun p hp => by simpa using hp) (by omega))
  rw [upTo_p] at hi4
  have HB4 := Lib.hid (bthen HB3.out hb4); have HI4 := Lib.hid hi4; have HT4 := Lib.hid (HT3.out.mono hb4)
  clear ho4 hb4 hi4
  go_wp2_with fail
  refine (HPL.out _ _ _ (HA.out.mono HB4.out) HI4.out).mono ?_
  rintro e w5 ⟨v5, os, rfl, ha5, hb5⟩
  have HA5 := Lib.hid ha5; have HB5 := Lib.hid (bthen HB4.out hb5); have HT5 := Lib.hid (HT4.out.mono hb5); have HS5 := Lib.hid HB4.out.size
  clear hb5
  go_wp2_with fail
  refine (LowerR_call _ _ A (HA.out.mono HB5.out) HR.out h12 h10).mono ?_
  rintro e w6 ⟨rfl, hb6⟩
  have hbw6 := bthen HB5.out hb6
  obtain ⟨c0, c1, c2, cf, cl⟩ := HT5.out.mono hb6
  have ha6 := ha5.below hb6
  obtain ⟨pa, pc, rfl⟩ := own_slice ha5.own
  have HA6 := Lib.hid ha6
  obtain ⟨pl, hpl⟩ : ∃ pl, pl = (planF A (inputsS A) 13 (fullS A) 0).length := ⟨_, rfl⟩
  clear hb6 ha5 ha6
  go_wp2_with fail
  refine bodyPost_ret (v := .tuple #[.agg #[.slice pa (planF A (inputsS A) 13 (fullS A) 0).length pc, .int .i64 d, .int .i64 (lowerS A)], .int .i64 0]) ?_ rfl ?_
  · simp [results, Tryz.results13, go_sem, c0, c1, c2, cf, cl]
  · refine ⟨_, by rw [HE.out], ?_, ((hbw6.setCell (by simp) _).setCell (by simp) _).setCell (by simp) _⟩
    rw [HS.out]
    refine ⟨_, os, by rw [HMD.out]; rfl, ?_⟩
    exact (((HA6.out.setlow HT4.out.lt).setlow HT4.out.lt).setlow HT4.out.lt).base HS5.out
theorem MakeR_call (w : World) (a : Value) (A : List (List Nat)) (h : Int) (ha : ValRows w a A) : Calls Tryz.prog 13 #[a, .int .i64 h] w (MakePost A h w) := by
  by_cases hp : permS A h = 0
  · by_cases hd : h < (dep A (inputsS A) (fullS A) : Nat)
    · exact MakeR_far w a A h ha hp hd
    · exact MakeR_ok w a A h ha hp hd
  · exact MakeR_bad w a A h ha hp
end Go.Proofs.YtoiemkifgdnhaaaGreatDoor
namespace Go.Proofs.YtoiemkifgdnhaaaGreatDoor
open Go Go.RowKit
theorem make_low {A : List (List Nat)} (hr : rightS A = true) (h1 : A.length ≤ 12) (h2 : inputsS A ≤ 10) {h : Int} (he : makeE A h = 0) : (planI (makeS A h)).lower ≤ (planI (makeS A h)).depth := by
  have hs : makeS A h = makeP A := by unfold makeS; rw [if_pos he]
  have := lower_dep hr (ok_of hr h1 h2)
  rw [hs]
  show ((lowerS A : Nat) : Int) ≤ ((dep A (inputsS A) (fullS A) : Nat) : Int)
  omega
set_option maxRecDepth 100000 in
set_option maxHeartbeats 1000000 in
theorem Makes_walk (w : World) (v : Value) (L : List (List Int)) (z : Int) (hv : IntRows w v L) (hG : G w) (hT : GT w) : Calls Tryz.prog 3 #[v, .int .i64 z] w (TruePost w) := by
  have HV := Lib.hid hv; have HG := Lib.hid hG; have HT := Lib.hid hT
  obtain ⟨ao, ac, rfl, hv1⟩ := hv.1.open
  have hv2 := hv.2
  obtain ⟨n, hn⟩ : ∃ n, n = min L.length 7 := ⟨_, rfl⟩
  have hmin : min (L.length : Int) 7 = n := by omega
  have hn0 : (0 : Int) ≤ n := by omega
  have hn1 : (n : Int) ≤ ac := by omega
  have hnl : n ≤ L.length := by omega
  have hnt : (L.take n).length = n := by simp; omega
  have hn7 : n ≤ 7 := by omega
  obtain ⟨hr, hal, hin⟩ := made_right (L.take n)
  rw [hnt] at hal
  obtain ⟨A, hA⟩ : ∃ A, A = madeS (L.take n) := ⟨_, rfl⟩
  rw [← hA] at hr hal hin
  have hA7 : A.length ≤ 7 := by omega
  have HA := Lib.hid hA; have HR := Lib.hid hr
  clear hv hG hT hn hA hr hnt
  go_enter Tryz.func3, Tryz.ntmps3
  go_wp2_with (first | (go_at_call 10; refine (sanity_call _ HG.out HT.out).mono ?_; rintro e w1 ⟨rfl, hb1⟩) | (go_at_call 11; refine (Made_call _ _ (L.take n) ((HV.out.take hnl).mono hb1)).mono ?_; rintro e w2 ⟨o2, rfl, ho2, hb2⟩))
  rw [← HA.out] at ho2
  have hva : ValRows w2 o2 A := by have := ho2; rw [HA.out] at this ⊢; exact this.made
  obtain ⟨oa, oc, rfl, _⟩ := hva.1.open
  have hb12 := bthen hb1 hb2
  obtain ⟨W2, hW2⟩ : ∃ W2, W2 = w2.alloc (.cells #[.int .i64 z, .int .i64 6, .int .i64 2] 3) := ⟨_, rfl⟩
  have hbW : Below w2.heap.size w2 W2 := by rw [hW2]; exact below1 _ _
  have t0 : W2.cell? ⟨w2.heap.size, 0, none⟩ = some (.int .i64 z) := by rw [hW2]; simp
  have t1 : W2.cell? ⟨w2.heap.size, 1, none⟩ = some (.int .i64 6) := by rw [hW2]; simp
  have t2 : W2.cell? ⟨w2.heap.size, 2, none⟩ = some (.int .i64 2) := by rw [hW2]; simp
  have ts : w2.heap.size < W2.heap.size := by rw [hW2]; simp
  rw [← hW2]
  have HVA := Lib.hid (hva.mono hbW); have HB := Lib.hid (bthen hb12 hbW)
  have HT0 := Lib.hid t0; have HT1 := Lib.hid t1; have HT2 := Lib.hid t2
  clear hva hb12 ho2 hb1 hb2 hal hW2 hbW t0 t1 t2 hv2 hv1 hmin hn0 hn1 hnl
  go_loopw [8, 9, 10, 11, 12, 23] (fun _ _ _ _ _ i wr => ∃ k : Nat, k ≤ 3 ∧ i = .int .i64 k ∧ Below W2.heap.size W2 wr) (fun _ _ _ _ _ i _ => 3 - (intOf i).toNat)
  case atStart => exact ⟨0, by omega, rfl, Below.refl _ _⟩
  case round =>
    obtain ⟨k, hk, rfl, hb⟩ := hrel
    have HBB := Lib.hid hb
    by_cases hlt : k < 3
    · obtain ⟨h, hh⟩ : ∃ h, wr.cell? ⟨w2.heap.size, k, none⟩ = some (.int .i64 h) := by
        have : k = 0 ∨ k = 1 ∨ k = 2 := by omega
        rcases this with rfl | rfl | rfl
        · exact ⟨_, (olds hb _ _ ts).trans HT0.out⟩
        · exact ⟨_, (olds hb _ _ ts).trans HT1.out⟩
        · exact ⟨_, (olds hb _ _ ts).trans HT2.out⟩
      have q1 : (k : Int) < 3 := by omega
      have q0 : 0 ≤ (k : Int) := by omega
      clear hb
      go_wp2_with fail
      refine (Make_call _ _ A h (HVA.out.mono HBB.out) (HG.out.mono (bthen HB.out HBB.out)) (HT.out.mono (bthen HB.out HBB.out)) (by omega)).mono ?_
      rintro e w3 ⟨p3, rfl, hp3, hb3⟩
      have hP3 := hp3.reads
      obtain ⟨P, hP⟩ : ∃ P, P = planI (makeS A h) := ⟨_, rfl⟩
      obtain ⟨ee, hee⟩ : ∃ ee, ee = makeE A h := ⟨_, rfl⟩
      rw [← hP] at hP3
      rw [← hee]
      obtain ⟨pv, rfl, hq3⟩ := hP3
      obtain ⟨pa, pc, rfl, _⟩ := hq3.1.open
      have HP := Lib.hid hP; have HEE := Lib.hid hee; have HQ3 := Lib.hid hq3
      have HB3 := Lib.hid (bthen HBB.out hb3)
      clear hp3 hb3 hP hee hq3 hh
      go_wp2_with fail
      refine (MakeR_call _ _ A h (HVA.out.mono (bstep HB3.out (Below.refl _ _)))).mono ?_
      rintro e w4 ⟨p4, rfl, hp4, hb4⟩
      have hP4 := hp4.reads
      rw [← HP.out] at hP4
      rw [← HEE.out]
      obtain ⟨pv4, rfl, hq4⟩ := hP4
      obtain ⟨pa4, pc4, rfl, _⟩ := hq4.1.open
      have HQ4 := Lib.hid hq4
      have HQ34 := Lib.hid (HQ3.out.mono (bin hb4))
      have HB4 := Lib.hid (bstep HB3.out hb4)
      have c0 : w4.cell? ⟨w3.heap.size, 0, none⟩ = some (.slice pa P.asks.length pc) := (olds hb4 _ _ (by simp)).trans (by simp)
      have c1 : w4.cell? ⟨w3.heap.size, 1, none⟩ = some (.int .i64 P.depth) := (olds hb4 _ _ (by simp)).trans (by simp)
      have c2 : w4.cell? ⟨w3.heap.size, 2, none⟩ = some (.int .i64 P.lower) := (olds hb4 _ _ (by simp)).trans (by simp)
      have hs4 : w3.heap.size < w4.heap.size := by have := hb4.size; simp at this; omega
      clear hp4 hb4 hq4
      by_cases he : ee = 0
      · subst he
        have hlow : ¬ (P.lower > P.depth) := by rw [HP.out]; have := make_low HR.out (by omega) hin HEE.out.symm; omega
        go_wp2_with fail
        refine (same25_call _ _ _ P ⟨_, rfl, HQ34.out.mono (below1 _ _)⟩ ⟨_, rfl, HQ4.out.mono (below1 _ _)⟩).mono ?_
        rintro e w5 ⟨rfl, hb5⟩
        have d0 := (olds (bin hb5) _ _ hs4).trans c0
        have d1 := (olds (bin hb5) _ _ hs4).trans c1
        have d2 := (olds (bin hb5) _ _ hs4).trans c2
        have hs5 := Nat.lt_of_lt_of_le hs4 (bin hb5).size
        have HQ5 := Lib.hid (HQ34.out.mono (bin hb5))
        have HB5 := Lib.hid (bstep HB4.out hb5)
        clear c0 c1 c2 hb5
        go_wp2_with fail
        refine (Check_call _ _ _ A h (HVA.out.mono HB5.out) (by rw [← HP.out]; exact ⟨_, rfl, HQ5.out⟩) (HG.out.mono (bthen HB.out HB5.out)) (by omega) HEE.out.symm).mono ?_
        rintro e w6 ⟨rfl, hb6⟩
        have f1 := (olds hb6 _ _ hs5).trans d1
        have f2 := (olds hb6 _ _ hs5).trans d2
        have HB6 := Lib.hid (bthen HB5.out hb6)
        clear d0 d1 d2 hb6
        go_wp2_with fail
        exact ⟨⟨k + 1, by omega, by go_num, HB6.out⟩, by simp [intOf]; omega⟩
      · have e0 : (ee == 0) = false := by simpa using he
        have e1 : (ee != ee) = false := by simp
        go_wp2_with fail
        refine (same25_call _ _ _ P ⟨_, rfl, HQ34.out.mono (below1 _ _)⟩ ⟨_, rfl, HQ4.out.mono (below1 _ _)⟩).mono ?_
        rintro e w5 ⟨rfl, hb5⟩
        have HB5 := Lib.hid (bstep HB4.out hb5)
        clear c0 c1 c2 hb5
        go_wp2_with fail
        exact ⟨⟨k + 1, by omega, by go_num, HB5.out⟩, by simp [intOf]; omega⟩
    · have hk3 : k = 3 := by omega
      subst hk3
      clear hb
      go_wp2
      go_ret
      exact ⟨rfl, bthen HB.out HBB.out⟩
end Go.Proofs.YtoiemkifgdnhaaaGreatDoor
