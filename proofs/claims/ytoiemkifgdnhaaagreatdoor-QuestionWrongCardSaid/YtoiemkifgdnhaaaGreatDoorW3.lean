/- QuestionWrong: the walk. No conditions. -/
import Derived.Test.YtoiemkifgdnhaaaGreatDoorW2
import Derived.Test.YtoiemkifgdnhaaaGreatDoorW1
import Derived.Test.YtoiemkifgdnhaaaGreatDoorK3
import Derived.Deep.CutBlock
namespace Go.Proofs.YtoiemkifgdnhaaaGreatDoor
open Go Go.RowKit
def slen : Value → Nat
  | .slice _ n _ => n
  | _ => 0
theorem zz_len (n : Nat) : (zz n).length = n := by simp [zz]
theorem zz_le (n : Nat) : ∀ z ∈ zz n, z.1 ≤ 10 := by
  intro z hz
  rw [zz, List.mem_replicate] at hz
  rw [hz.2]; simp
theorem AnsAt.push {w w2 : World} {B k g c : Nat} {v v' r : Value} {us : List Value} {zss : List (List ZV)} {zs : List ZV} (h1 : w.ownsRow B 42 1 v zss.length us) (h2 : us.length = zss.length)
    (h3 : ∀ (k : Nat) (u : Value) (zs : List ZV), us[k]? = some u → zss[k]? = some zs → w.ownsRow B 47 7 u zs.length (cvs zs)) (h4 : Apart us) (hk : zss.length = k) (hz : ∀ zs ∈ zss, zs.length ≤ 30 ∧ ∀ z ∈ zs, z.1 ≤ 10)
    (hr : w.ownsRow B 47 7 r zs.length (cvs zs)) (hzs : zs.length ≤ 30 ∧ ∀ z ∈ zs, z.1 ≤ 10) (hfr : ∀ (k : Nat) (u : Value) (g : Nat), us[k]? = some u → u.ownBlock = some g → r.ownBlock = some g → False)
    (hg : w.grownBy w2 v.ownBlock) (hown : w2.ownsRow B 42 1 v' (zss.length + 1) (us ++ [r])) : AnsAt w2 B v' (k + 1) :=
  ⟨zss ++ [zs], OwnRows.push h1 h2 h3 h4 hr hfr hg hown, by rw [List.length_append, hk]; rfl, fun x hx => by
    rcases List.mem_append.1 hx with hx | hx
    · exact hz x hx
    · simp at hx; rw [hx]; exact hzs⟩
theorem inputs_le {A : List (List Nat)} {b : Nat} (h : ∀ l ∈ A, l.length ≤ b) : inputsS A ≤ b := by
  cases A with
  | nil => simp [inputsS]
  | cons l A => exact h l (by simp)
set_option maxRecDepth 100000 in
set_option maxHeartbeats 2000000 in
theorem Wrong_walk (w : World) (v : Value) (L : List (List Int)) (c z : Int) (hv : IntRows w v L) (hG : G w) (hT : GT w) (hc : 0 ≤ c ∧ c < 256) : Calls Tryz.prog 5 #[v, .int .u8 c, .int .i64 z] w (TruePost w) := by
  have HV := Lib.hid hv; have HG := Lib.hid hG; have HT := Lib.hid hT
  obtain ⟨ao, ac, rfl, hv1⟩ := hv.1.open
  have hv2 := hv.2
  obtain ⟨c0, c1⟩ := hc
  obtain ⟨n, hn⟩ : ∃ n, n = min L.length 6 := ⟨_, rfl⟩
  have hmin : min (L.length : Int) 6 = n := by omega
  have hn0 : (0 : Int) ≤ n := by omega
  have hn1 : (n : Int) ≤ ac := by omega
  have hnl : n ≤ L.length := by omega
  have hnt : (L.take n).length = n := by simp; omega
  have hn6 : n ≤ 6 := by omega
  obtain ⟨hr, hal, hin⟩ := made_right (L.take n)
  rw [hnt] at hal
  obtain ⟨A, hA⟩ : ∃ A, A = madeS (L.take n) := ⟨_, rfl⟩
  rw [← hA] at hr hal hin
  have hA6 : A.length ≤ 6 := by omega
  have HA := Lib.hid hA; have HR := Lib.hid hr
  clear hv hG hT hn hA hr hnt hal
  go_enter Tryz.func5, Tryz.ntmps5
  go_wp2_with fail
  refine (sanity_call _ HG.out HT.out).mono ?_
  rintro e w1 ⟨rfl, hb1⟩
  go_wp2_with fail
  refine (Made_call _ _ (L.take n) ((HV.out.take hnl).mono hb1)).mono ?_
  rintro e w2 ⟨o2, rfl, ho2, hb2⟩
  rw [← HA.out] at ho2
  obtain ⟨oa, oc, rfl⟩ : ∃ oa oc, o2 = .slice oa A.length oc := by
    obtain ⟨us, h1, _⟩ := ho2
    obtain ⟨a, c, e⟩ := own_slice h1
    exact ⟨a, c, by rw [e]; simp⟩
  have HO2 := Lib.hid ho2; have HB2 := Lib.hid (bthen hb1 hb2); have HB1 := Lib.hid hb1.size; have HZ12 := Lib.hid hb2.size
  clear hb1 hb2 ho2
  go_upto_block 0 with (fail)
  obtain ⟨i0, hi, hz0, hz1, hz2⟩ := info_parts info_value
  have Hi := Lib.hid hi; have Hz0 := Lib.hid hz0; have Hz1 := Lib.hid hz1; have Hz2 := Lib.hid hz2
  obtain ⟨j0, ji, jz0, jz1, jz2⟩ := info_parts info_vals
  have Ji := Lib.hid ji; have Jz0 := Lib.hid jz0; have Jz1 := Lib.hid jz1; have Jz2 := Lib.hid jz2
  have hAz : ∀ zs ∈ A.map zv, zs.length ≤ 10 ∧ ∀ z ∈ zs, z.1 ≤ 10 := fun zs hz => by
    obtain ⟨l, hl2, rfl⟩ := List.mem_map.1 hz
    have h1 := right_rows HR.out l hl2
    refine ⟨by rw [zv_len, h1.1]; omega, fun z hz => ?_⟩
    obtain ⟨x, hx, rfl⟩ := List.mem_map.1 hz
    have := h1.2 x hx
    show x ≤ 10; omega
  have hva : ValRows w2 (.slice oa A.length oc) A := by have := HO2.out; rw [HA.out] at this ⊢; exact this.made
  obtain ⟨us, u1, u2, u3, u4⟩ := HO2.out
  have hml : (A.map zv).length = A.length := by simp
  have HAZ := Lib.hid hAz; have HVA := Lib.hid hva; have U1 := Lib.hid u1; have U2 := Lib.hid u2; have U3 := Lib.hid u3; have U4 := Lib.hid u4; have HML := Lib.hid hml
  clear hi hz0 hz1 hz2 ji jz0 jz1 jz2 hAz hva u1 u2 u3 u4 hml hmin hn0 hn1 hnl
  obtain ⟨r, hr⟩ : ∃ r, r = c % 6 := ⟨_, rfl⟩
  have hr0 : 0 ≤ r := by omega
  have hr6 : r < 6 := by omega
  rw [← hr]
  clear hr
  go_cut [8] (fun o wx => (∃ A' : List (List Nat), ValRows wx o A' ∧ A'.length ≤ 13) ∧ Below w.heap.size w wx)
  case first =>
    have hc : r = 0 ∨ r = 1 ∨ r = 2 ∨ r = 3 ∨ r = 4 ∨ r = 5 := by omega
    rcases hc with rfl | rfl | rfl | rfl | rfl | rfl
    · obtain ⟨I, hI⟩ : ∃ I, I = inputsS A := ⟨_, rfl⟩
      have hI10 : I ≤ 10 := by omega
      have HI := Lib.hid hI
      have U1' := U1.out
      rw [HML.out] at U1'
      have HU1 := Lib.hid U1'
      have z1 := HB1.out
      have z2 := HZ12.out
      clear hI U1'
      go_wp2_with (first | (go_at_call 16; refine (Inputs_call _ _ A HVA.out).mono ?_; rintro e w3 ⟨rfl, rfl⟩; rw [← HI.out]) | (at_make; refine wpList_make_full _ rfl _ _ 42 rfl w3.heap.size 47 i0 _ 7 und_vals Hi.out Hz0.out Hz1.out _ _ _ _ (I + 1) rfl rfl rfl rfl (by rw [Hz2.out]; omega) (by unfold maxLen; omega) (Nat.le_refl _) ?_; intro w5 hown hgr; have hb25 : Below w3.heap.size w3 w5 := (Below.refl _ _).grown hgr (Nat.le_refl _) (by simp); have z3 := hb25.size) | (at_builtin; refine wpList_app rfl (.tmp 25) (.tmp 30) 24 rfl w1.heap.size 42 j0 _ 1 24 und_valrows Ji.out Jz0.out Jz1.out Jz2.out rfl (by decide) _ _ _ rfl ((own_below HU1.out hb25).alloc _) ⟨w5.heap.size, 0, none⟩ 1 1 [.slice (some ⟨w3.heap.size, 0, none⟩) (I + 1) (I + 1)] rfl rfl (One.cells (heap_alloc_new w5 _)) (by intro u hu; simp at hu; subst hu; rfl) (by unfold maxLen; omega) (by omega) (by simp; omega) ?_; intro v' w9 hown2 hgr2 hfr))
      go_meet
      case rel =>
        have hz := made_zz (I + 1)
        have hr : w5.ownsRow w1.heap.size 47 7 (.slice (some ⟨w3.heap.size, 0, none⟩) (I + 1) (I + 1)) (zz (I + 1)).length (cvs (zz (I + 1))) := by
          rw [zz_len, ← hz]; exact own_base hown z2
        have hans := AnsAt.push (w := w5.alloc (.cells #[.slice (some ⟨w3.heap.size, 0, none⟩) (I + 1) (I + 1)] 42)) (w2 := w9) (B := w1.heap.size) (k := A.length) (v := .slice oa A.length oc) (v' := v') (us := us) (zss := A.map zv) (zs := zz (I + 1)) (g := 0) (c := 0)
          (own_below (own_below U1.out hb25) (below1 _ _)) U2.out (fun k u zs hu hz => own_below (own_below (U3.out k u zs hu hz) hb25) (below1 _ _)) U4.out HML.out (fun zs hz => ⟨by have := (HAZ.out zs hz).1; omega, (HAZ.out zs hz).2⟩)
          (own_below hr (below1 _ _)) ⟨by rw [zz_len]; omega, zz_le _⟩ (fun k u g hu hg hg' => by
            have hk := (List.getElem?_eq_some_iff.1 hu).1
            have h1 := ((U3.out k u ((A.map zv)[k]'(by have := U2.out; omega)) hu (List.getElem?_eq_getElem _)).lt g hg).2
            have hg2 : w3.heap.size = g := by simpa [Value.ownBlock] using hg'
            omega) hgr2 (by rw [HML.out]; exact hown2)
        obtain ⟨A', a1, a2, _⟩ := hans.rows (by omega)
        have hb := HB2.out.trans (hb25.mono HB2.out.size)
        exact ⟨⟨A', a1, by omega⟩, (hb.alloc hb.size _).grown hgr2 (by have := hb.size; simp; omega) (fun g hg => by have := (HU1.out.lt g hg).1; omega)⟩
    · by_cases hI0 : inputsS A = 0
      · have q0 : ¬ ((inputsS A : Int) > 0) := by omega
        go_wp2_with (go_at_call 16; refine (Inputs_call _ _ A HVA.out).mono ?_; rintro e w3 ⟨rfl, rfl⟩)
        go_meet
        case rel => exact ⟨⟨A, HVA.out, by omega⟩, HB2.out⟩
      · have q0 : ((inputsS A : Int) > 0) := by omega
        have hA0 : 0 < A.length := by
          rcases Nat.eq_zero_or_pos A.length with h | h
          · rw [List.eq_nil_of_length_eq_zero h] at hI0; exact absurd rfl hI0
          · exact h
        have hml := HML.out
        have hl0 : 0 < (A.map zv).length := by omega
        obtain ⟨zs, hzs⟩ : ∃ zs, (A.map zv)[0]? = some zs := ⟨_, List.getElem?_eq_getElem hl0⟩
        have hzl : zs.length = inputsS A := by
          rw [List.getElem?_map] at hzs
          cases A with
          | nil => simp at hA0
          | cons l A => simp at hzs; rw [← hzs, zv_len]; rfl
        obtain ⟨u, hu⟩ : ∃ u, us[0]? = some u := ⟨_, List.getElem?_eq_getElem (by have := U2.out; omega)⟩
        have hr0 := U3.out 0 u zs hu hzs
        obtain ⟨gv, gc, rfl⟩ := own_shape hr0 (by omega)
        have h1 := U1.out
        rw [hml] at h1
        obtain ⟨go, oc', hgo⟩ := own_shape h1 hA0
        simp only [Value.slice.injEq] at hgo
        obtain ⟨rfl, _, rfl⟩ := hgo
        have ck : w2.cell? ⟨go, 0, none⟩ = some (.slice (some ⟨gv, 0, none⟩) zs.length gc) := (h1.cellAt 0 (by omega)).trans hu
        obtain ⟨v0, p0⟩ := own_cells7 hr0 (j := 0) (by omega) 0 (by omega)
        obtain ⟨v1, p1⟩ := own_cells7 hr0 (j := 0) (by omega) 1 (by omega)
        obtain ⟨v2, p2⟩ := own_cells7 hr0 (j := 0) (by omega) 2 (by omega)
        obtain ⟨v3, p3⟩ := own_cells7 hr0 (j := 0) (by omega) 3 (by omega)
        obtain ⟨v4, p4⟩ := own_cells7 hr0 (j := 0) (by omega) 4 (by omega)
        obtain ⟨v5, p5⟩ := own_cells7 hr0 (j := 0) (by omega) 5 (by omega)
        obtain ⟨v6, p6⟩ := own_cells7 hr0 (j := 0) (by omega) 6 (by omega)
        simp only [Nat.zero_mul, Nat.zero_add] at p0 p1 p2 p3 p4 p5 p6
        have hf := fun o => hr0.frozenAt o
        have hgl := hr0.lt gv rfl
        have z1 := HB1.out
        have x0 : (0 : Int) < zs.length := by omega
        have x0n : 0 < zs.length := by omega
        have y0 : (0 : Int) < A.length := by omega
        have HU := Lib.hid hu; have HZS := Lib.hid hzs
        clear h1 hr0 hu hzs hzl hml hI0
        go_wp2_with (go_at_call 16; refine (Inputs_call _ _ A HVA.out).mono ?_; rintro e w3 ⟨rfl, rfl⟩)
        go_meet
        case rel =>
          obtain ⟨A', a1, a2⟩ := OwnRows.first (x := 10) U1.out U2.out (by have := HML.out; omega) U3.out U4.out (fun zs hz => ⟨by have := (HAZ.out zs hz).1; omega, (HAZ.out zs hz).2⟩) HU.out HZS.out (by omega) p0 p1 p2 p3 p4 p5 p6
          have hb := HB2.out
          exact ⟨⟨A', a1, by have := HML.out; omega⟩, (by repeat (first | with_reducible exact Below.refl _ _ | with_reducible assumption | with_reducible refine Below.drew ?_ | with_reducible refine Below.alloc ?_ (by first | omega | (simp; done) | (simp; omega)) _ | with_reducible refine Below.setCell ?_ (by first | omega | (simp; done) | (simp; omega)) _))⟩
    · go_wp2_with fail
      have z1 := HB1.out
      have z2 := HZ12.out
      go_loopw [8] (fun o wr => ∃ k, k ≤ 13 ∧ slen o = k ∧ AnsAt wr w1.heap.size o k ∧ Below w.heap.size w wr ∧ w1.heap.size ≤ wr.heap.size) (fun o _ => 13 - slen o)
      case atStart => exact ⟨A.length, by omega, rfl, ⟨A.map zv, ⟨us, U1.out, U2.out, U3.out, U4.out⟩, HML.out, fun zs hz => ⟨by have := (HAZ.out zs hz).1; omega, (HAZ.out zs hz).2⟩⟩, HB2.out, z2⟩
      case round =>
        obtain ⟨k, hk, hsl, hans, hb, hzr⟩ := hrel
        obtain ⟨A', a1, a2, a3⟩ := hans.rows hk
        obtain ⟨zss, ⟨us', m1, m2, m3, m4⟩, m5, m6⟩ := hans
        rw [m5] at m1
        obtain ⟨ba, bc, rfl⟩ := own_slice m1
        have HB := Lib.hid hb; have M1 := Lib.hid m1; have M2 := Lib.hid m2; have M3 := Lib.hid m3; have M4 := Lib.hid m4; have M5 := Lib.hid m5; have M6 := Lib.hid m6; have HA1 := Lib.hid a1; have HA2 := Lib.hid a2
        by_cases hlt : k < 13
        · have q0 : (k : Int) < 13 := by omega
          obtain ⟨I, hI⟩ : ∃ I, I = inputsS A' := ⟨_, rfl⟩
          have hI30 : I ≤ 30 := by rw [hI]; exact inputs_le a3
          have HI := Lib.hid hI
          clear hI a1 a2 a3 m1 m2 m3 m4 m5 m6 hb hsl
          go_wp2_with (first | (go_at_call 16; refine (Inputs_call _ _ A' HA1.out).mono ?_; rintro e w3 ⟨rfl, rfl⟩; rw [← HI.out]) | (at_make; refine wpList_make_full _ rfl _ _ 42 rfl w3.heap.size 47 i0 _ 7 und_vals Hi.out Hz0.out Hz1.out _ _ _ _ I rfl rfl rfl rfl (by rw [Hz2.out]; omega) (by unfold maxLen; omega) (Nat.le_refl _) ?_; intro w5 hown hgr; have hb25 : Below w3.heap.size w3 w5 := (Below.refl _ _).grown hgr (Nat.le_refl _) (by simp); have z3 := hb25.size) | (at_builtin; refine wpList_app rfl (.tmp 47) (.tmp 51) 24 rfl w1.heap.size 42 j0 _ 1 24 und_valrows Ji.out Jz0.out Jz1.out Jz2.out rfl (by decide) _ _ _ rfl ((own_below M1.out hb25).alloc _) ⟨w5.heap.size, 0, none⟩ 1 1 [.slice (some ⟨w3.heap.size, 0, none⟩) I I] rfl rfl (One.cells (heap_alloc_new w5 _)) (by intro u hu; simp at hu; subst hu; rfl) (by unfold maxLen; omega) (by omega) (by simp; omega) ?_; intro v' w9 hown2 hgr2 hfr))
          have hz := made_zz I
          have hr : w5.ownsRow w1.heap.size 47 7 (.slice (some ⟨w3.heap.size, 0, none⟩) I I) (zz I).length (cvs (zz I)) := by
            rw [zz_len, ← hz]; exact own_base hown hzr
          have hans := AnsAt.push (w := w5.alloc (.cells #[.slice (some ⟨w3.heap.size, 0, none⟩) I I] 42)) (w2 := w9) (B := w1.heap.size) (k := k) (v := .slice ba k bc) (v' := v') (us := us') (zss := zss) (zs := zz I) (g := 0) (c := 0)
            (by rw [M5.out]; exact own_below (own_below M1.out hb25) (below1 _ _)) M2.out (fun k u zs hu hz => own_below (own_below (M3.out k u zs hu hz) hb25) (below1 _ _)) M4.out M5.out M6.out
            (own_below hr (below1 _ _)) ⟨by rw [zz_len]; omega, zz_le _⟩ (fun k u g hu hg hg' => by
              have hk := (List.getElem?_eq_some_iff.1 hu).1
              have h1 := ((M3.out k u (zss[k]'(by have := M2.out; omega)) hu (List.getElem?_eq_getElem _)).lt g hg).2
              have hg2 : w3.heap.size = g := by simpa [Value.ownBlock] using hg'
              omega) hgr2 (by rw [M5.out]; exact hown2)
          have hb := HB.out.trans (hb25.mono HB.out.size)
          obtain ⟨na, nc, rfl⟩ := own_slice hown2
          exact ⟨⟨k + 1, by omega, rfl, hans, (hb.alloc hb.size _).grown hgr2 (by have := hb.size; simp; omega) (fun g hg => by have := (M1.out.lt g hg).1; omega), Nat.le_trans (by simp; omega) hgr2.size⟩, by simp [slen]; omega⟩
        · obtain rfl : k = 13 := by omega
          clear a1 a2 a3 m1 m2 m3 m4 m5 m6 hb hsl
          go_wp2_with fail
          go_meet
          case rel => exact ⟨⟨A', HA1.out, by have := HA2.out; omega⟩, HB.out⟩
    · go_wp2_with fail
      have z1 := HB1.out
      have z2 := HZ12.out
      go_loopw [9, 57] (fun _ i wr => ∃ k : Nat, k ≤ A.length ∧ i = .int .i64 k ∧ (∃ zss, OwnRows wr w1.heap.size (.slice oa A.length oc) zss ∧ zss.length = A.length ∧ ∀ j zs, zss[j]? = some zs → (zs.length ≤ 21 ∧ (k ≤ j → zs.length ≤ 10)) ∧ ∀ z ∈ zs, z.1 ≤ 10) ∧ Below w.heap.size w wr ∧ w1.heap.size ≤ wr.heap.size) (fun _ i _ => A.length - (intOf i).toNat)
      case atStart => exact ⟨0, by omega, rfl, ⟨A.map zv, ⟨us, U1.out, U2.out, U3.out, U4.out⟩, HML.out, fun j zs hj => ⟨⟨by have := (HAZ.out zs (List.mem_of_getElem? hj)).1; omega, fun _ => (HAZ.out zs (List.mem_of_getElem? hj)).1⟩, (HAZ.out zs (List.mem_of_getElem? hj)).2⟩⟩, HB2.out, z2⟩
      case round =>
        obtain ⟨k, hk, rfl, ⟨zss, ⟨us', m1, m2, m3, m4⟩, m5, m6⟩, hb, hzr⟩ := hrel
        have HB := Lib.hid hb; have M2 := Lib.hid m2; have M3 := Lib.hid m3; have M4 := Lib.hid m4; have M5 := Lib.hid m5; have M6 := Lib.hid m6; have M1 := Lib.hid m1
        by_cases hlt : k < A.length
        · have q0 : (k : Int) < A.length := by omega
          have q1 : (0 : Int) ≤ k := by omega
          rw [m5] at m1
          obtain ⟨go, oc', hgo⟩ := own_shape m1 (by omega)
          simp only [Value.slice.injEq] at hgo
          obtain ⟨rfl, _, rfl⟩ := hgo
          obtain ⟨u, hu⟩ : ∃ u, us'[k]? = some u := ⟨_, List.getElem?_eq_getElem (by omega)⟩
          obtain ⟨zs, hzs⟩ : ∃ zs, zss[k]? = some zs := ⟨_, List.getElem?_eq_getElem (by omega)⟩
          have ho := m3 k u zs hu hzs
          have hlz := (m6 k zs hzs).1.2 (Nat.le_refl _)
          obtain ⟨ua, uc, rfl⟩ := own_slice ho
          have ck : wr.cell? ⟨go, k, none⟩ = some (.slice ua zs.length uc) := (m1.cellAt k (by omega)).trans hu
          have tl := m1.lt go rfl
          have hne : some go ≠ Value.ownBlock (.slice ua zs.length uc) := fun e => by have := own_apart ho m1 (by decide); rw [← e] at this; simp [Value.ownBlock] at this
          obtain ⟨v', w9, hrun, hown, hgr, hat⟩ := run_append_own_zeros (P := Tryz.prog) wr w1.heap.size 42 3 42 47 i0 _ 7 96 .i64 .i64 und_vals und_int Hi.out Hz0.out Hz1.out Hz2.out rfl (by decide) _ zs.length (cvs zs) ho 11 (by omega) (by rw [zero11']; exact cvs_one _) (by unfold maxLen; omega) (by omega) hzr
          rw [zero11'] at hown
          obtain ⟨g9, c9, rfl⟩ := own_shape hown (by omega)
          have e9 : w9.cell? ⟨go, k, none⟩ = some (.slice ua zs.length uc) := hgr.cell ck hne
          have f9 : w9.frozen? ⟨go, k, none⟩ = false := (World.frozen?_of_block (hgr.block go tl.2 hne)).trans (m1.frozenAt k)
          have l9 : go < w9.heap.size := Nat.lt_of_lt_of_le tl.2 hgr.size
          have HRUN := Lib.hid hrun; have HOWN := Lib.hid hown; have HGR := Lib.hid hgr; have HAT := Lib.hid hat; have HU := Lib.hid hu; have HZS := Lib.hid hzs; have HO := Lib.hid ho; have M1' := Lib.hid m1
          clear m1 m2 m3 m4 m5 m6 hb hu hzs ho hrun hown hgr hat hne
          go_wp2_with (at_builtin; refine Lib.wpList_append_run _ rfl (.tmp 65) (.const (.int .i64 11)) 42 3 rfl _ _ rfl rfl _ w9 HRUN.out ?_)
          have hput := OwnRows.put (w := wr) (w1 := w9) (B := w1.heap.size) (k := k) (v := .slice (some ⟨go, 0, none⟩) A.length oc) (u' := .slice (some ⟨g9, 0, none⟩) (zs.length + 11) c9) (us := us') (zss := zss) (zs := zs ++ zz 11)
            M1.out M2.out M3.out M4.out HU.out HGR.out (by rw [List.length_append, zz_len, cvs_append]; exact HOWN.out) (by
              rcases HAT.out with h | h
              · exact .inl h
              · right; intro g' hg'; rw [h] at hg'; cases hg'; exact Nat.le_refl _) (g := go) (cap := oc) (by rw [M5.out])
          refine ⟨⟨k + 1, by omega, by go_num, ⟨_, hput, by rw [List.length_set]; exact M5.out, fun j xs hj => ?_⟩, (HB.out.grown HGR.out HB.out.size (fun g hg => by have := (HO.out.lt g hg).1; omega)).setCell (show w.heap.size ≤ go by have := tl.1; omega) _, by have := HGR.out.size; simp; omega⟩, by simp [intOf]; omega⟩
          by_cases hjk : j = k
          · subst hjk
            rw [List.getElem?_set_self (by have := M5.out; omega)] at hj
            cases hj
            refine ⟨⟨by rw [List.length_append, zz_len]; omega, fun h => by omega⟩, fun z hz => ?_⟩
            rcases List.mem_append.1 hz with hz | hz
            · exact (M6.out j zs HZS.out).2 z hz
            · exact zz_le 11 z hz
          · rw [List.getElem?_set_ne (fun e => hjk e.symm)] at hj
            have := M6.out j xs hj
            exact ⟨⟨this.1.1, fun h => this.1.2 (by omega)⟩, this.2⟩
        · have hkA : k = A.length := by omega
          have q0 : ¬ ((k : Int) < A.length) := by omega
          clear m1 m2 m3 m4 m5 m6 hb
          go_wp2_with fail
          go_meet
          case rel =>
            have hv := OwnRows.rows (zss := zss) ⟨us', M1.out, M2.out, M3.out, M4.out⟩ (by have := M5.out; omega) (fun zs hz => by
              obtain ⟨j, hj, rfl⟩ := List.mem_iff_getElem.1 hz
              have := M6.out j _ (List.getElem?_eq_getElem hj)
              exact ⟨by have := this.1.1; omega, this.2⟩)
            exact ⟨⟨_, hv, by rw [zvals, List.length_map]; have := M5.out; omega⟩, HB.out⟩
    · go_wp2_with fail
      go_meet
      case rel => exact ⟨⟨A, HVA.out, by omega⟩, HB2.out⟩
    · go_wp2_with fail
      go_meet
      case rel => exact ⟨⟨A, HVA.out, by omega⟩, HB2.out⟩
  case rest =>
    obtain ⟨⟨A', hva, hl13⟩, hb⟩ := hcut
    obtain ⟨oa', oc', rfl, _⟩ := hva.1.open
    have hI := hva.inputs
    have HVX := Lib.hid hva; have HBX := Lib.hid hb
    have HGX := Lib.hid (HG.out.mono hb); have HTX := Lib.hid (HT.out.mono hb)
    have hn5 : A'.length ≤ 500 := by omega
    clear hva hb
    go_wp2_with fail
    refine (Make_call _ _ A' z HVX.out HGX.out HTX.out hn5).mono ?_
    rintro e w3 ⟨p3, rfl, hp3, hb3⟩
    have hP3 := hp3.reads
    obtain ⟨P, hP⟩ : ∃ P, P = planI (makeS A' z) := ⟨_, rfl⟩
    obtain ⟨ee, hee⟩ : ∃ ee, ee = makeE A' z := ⟨_, rfl⟩
    rw [← hP] at hP3
    rw [← hee]
    obtain ⟨pv, rfl, hq3⟩ := hP3
    obtain ⟨pa, pc, rfl, _⟩ := hq3.1.open
    have HP := Lib.hid hP; have HEE := Lib.hid hee; have HQ3 := Lib.hid hq3
    have HB3 := Lib.hid hb3
    clear hp3 hb3 hP hee hq3
    go_wp2_with fail
    refine (MakeR_call _ _ A' z (HVX.out.mono (bstep HB3.out (Below.refl _ _)))).mono ?_
    rintro e w4 ⟨p4, rfl, hp4, hb4⟩
    have hP4 := hp4.reads
    rw [← HP.out] at hP4
    rw [← HEE.out]
    obtain ⟨pv4, rfl, hq4⟩ := hP4
    obtain ⟨pa4, pc4, rfl, _⟩ := hq4.1.open
    have HQ4 := Lib.hid hq4
    have HQ34 := Lib.hid (HQ3.out.mono (bin hb4))
    have HB4 := Lib.hid (bstep HB3.out hb4)
    have d0 : w4.cell? ⟨w3.heap.size, 0, none⟩ = some (.slice pa P.asks.length pc) := (olds hb4 _ _ (by simp)).trans (by simp)
    have d1 : w4.cell? ⟨w3.heap.size, 1, none⟩ = some (.int .i64 P.depth) := (olds hb4 _ _ (by simp)).trans (by simp)
    have d2 : w4.cell? ⟨w3.heap.size, 2, none⟩ = some (.int .i64 P.lower) := (olds hb4 _ _ (by simp)).trans (by simp)
    have hs4 : w3.heap.size < w4.heap.size := by have := hb4.size; simp at this; omega
    have e1 : (ee != ee) = false := by simp
    clear hp4 hb4 hq4
    go_wp2_with fail
    refine (same25_call _ _ _ P ⟨_, rfl, HQ34.out.mono (below1 _ _)⟩ ⟨_, rfl, HQ4.out.mono (below1 _ _)⟩).mono ?_
    rintro e w5 ⟨rfl, hb5⟩
    have d0 := (olds (bin hb5) _ _ hs4).trans d0
    have d1 := (olds (bin hb5) _ _ hs4).trans d1
    have d2 := (olds (bin hb5) _ _ hs4).trans d2
    have hs5 := Nat.lt_of_lt_of_le hs4 (bin hb5).size
    have HQ5 := Lib.hid (HQ34.out.mono (bin hb5))
    have HB5 := Lib.hid (bstep HB4.out hb5)
    have hpl : PlanAt w5 (.agg #[.slice pa P.asks.length pc, .int .i64 P.depth, .int .i64 P.lower]) (planI (makeS A' z)) := by rw [← HP.out]; exact ⟨_, rfl, HQ5.out⟩
    have HPL := Lib.hid hpl
    obtain ⟨cb, hcb⟩ : ∃ cb, cb = decide (makeE A' z = 0) := ⟨_, rfl⟩
    have HCB := Lib.hid hcb
    have c9 : (cb == cb) = true := by simp
    have HV5 := Lib.hid (HVX.out.mono HB5.out); have HG5 := Lib.hid (HGX.out.mono HB5.out)
    have hul := useful_len A' (inputsS A')
    have hux : ∀ x ∈ pInts (usefulS A' (inputsS A')), -9223372036854775808 ≤ x ∧ x ≤ 9223372036854775807 := by
      intro x hx
      simp only [pInts, List.mem_map] at hx
      obtain ⟨y, hy, rfl⟩ := hx
      have h1 := List.mem_range.1 (List.mem_filter.1 hy).1
      omega
    have hul2 : (pInts (usefulS A' (inputsS A'))).length * 8 ≤ 140737488355328 := by rw [pInts_len]; omega
    have HUX := Lib.hid hux; have HUL := Lib.hid hul2
    have HB5w := Lib.hid (bthen HBX.out HB5.out)
    clear hb5 hpl hcb hul hux hul2
    go_wp2_with fail
    go_region_held3 (fun w' => w5.heap.size ≤ w'.heap.size ∧ ∀ b o, b < w5.heap.size → w'.cell? ⟨b, o, none⟩ = w5.cell? ⟨b, o, none⟩) (first | with_reducible exact ks (Below.refl _ _) | exact ks (by repeat (first | with_reducible exact Below.refl _ _ | with_reducible assumption | with_reducible refine Below.drew ?_ | with_reducible refine Below.alloc ?_ (by first | omega | (simp; done) | (simp; omega)) _ | with_reducible refine Below.setCell ?_ (by first | omega | (simp; done) | (simp; omega)) _))) (first
      | (go_at_call 15; refine (Check_any _ _ _ A' z (HV5.out.mono (Below.refl _ _).drew) (HPL.out.mono (Below.refl _ _).drew) (HG5.out.mono (Below.refl _ _).drew) hn5).mono ?_; rintro e w6 ⟨rfl, hb6⟩; rw [← HCB.out]; have hb6' := bdrew hb6; clear hb6)
      | (go_at_call 23; refine (CheckR_any _ _ _ A' z (HV5.out.mono hb6') (HPL.out.mono hb6')).mono ?_; rintro e w7 ⟨rfl, hb7⟩; rw [← HCB.out]; have hb7' := bthen hb6' hb7; clear hb7)
      | (go_at_call 21; refine (Useful_call _ _ A' (HV5.out.mono hb7') (HG5.out.mono hb7') hn5).mono ?_; rintro e w8 ⟨v8, rfl, ho8, hb8⟩; have hb8' := bthen hb7' hb8; obtain ⟨a8, c8, rfl⟩ := own_slice ho8; have HI8 := Lib.hid (own_ints ho8 HUL.out HUX.out); clear ho8 hb8)
      | (go_at_call 22; refine (UsefulR_call _ _ A' (HV5.out.mono hb8') hn5 hI).mono ?_; rintro e w9 ⟨v9, rfl, ho9, hb9⟩; have hb9' := bthen hb8' hb9; obtain ⟨a9, c9_, rfl⟩ := own_slice ho9; have HI9 := Lib.hid (own_ints ho9 HUL.out HUX.out); have HI89 := Lib.hid (HI8.out.mono hb9); clear ho9 hb9)
      | (go_at_call 20; refine (ints13 _ _ _ _ _ HI89.out HI9.out).mono ?_; rintro e w10 ⟨rfl, hb10⟩; simp only [beq_self_eq_true]; have hb10' := bthen hb9' hb10; have z10 := hb10'.size; clear hb10)
      | (go_at_call 18; refine (Groups_call _ _ _ A' [0, 1] 0 (HV5.out.mono (by repeat (first | with_reducible exact Below.refl _ _ | with_reducible assumption | with_reducible refine Below.drew ?_ | with_reducible refine Below.alloc ?_ (by first | omega | (simp; done) | (simp; omega)) _ | with_reducible refine Below.setCell ?_ (by first | omega | (simp; done) | (simp; omega)) _))) (by first | exact ints_new2 w10 0 1 3 (by omega) (by omega) | exact (ints_new2 w10 0 1 3 (by omega) (by omega)).mono (below1 _ _) | (have h := ints_new2 (w10.alloc (.cells #[.int .i64 0, .int .i64 1] 3)) 0 1 3 (by omega) (by omega); simp only [World.size_alloc] at h; exact h)) (HG5.out.mono (by repeat (first | with_reducible exact Below.refl _ _ | with_reducible assumption | with_reducible refine Below.drew ?_ | with_reducible refine Below.alloc ?_ (by first | omega | (simp; done) | (simp; omega)) _ | with_reducible refine Below.setCell ?_ (by first | omega | (simp; done) | (simp; omega)) _))) hn5).mono ?_; rintro e w11 ⟨o11, rfl, hl11, hb11⟩; have hb11' : Below w5.heap.size w5 w11 := bthen (by repeat (first | with_reducible exact Below.refl _ _ | with_reducible assumption | with_reducible refine Below.drew ?_ | with_reducible refine Below.alloc ?_ (by first | omega | (simp; done) | (simp; omega)) _ | with_reducible refine Below.setCell ?_ (by first | omega | (simp; done) | (simp; omega)) _)) hb11; have z11 := hb11'.size; obtain ⟨a11, c11, rfl⟩ := hl11.slice; have HR11 := Lib.hid (groups_rows2 hl11 hn5); clear hl11)
      | (go_at_call 19; refine (GroupsR_call _ _ _ A' [0, 1] 0 (HV5.out.mono (by repeat (first | with_reducible exact Below.refl _ _ | with_reducible assumption | with_reducible refine Below.drew ?_ | with_reducible refine Below.alloc ?_ (by first | omega | (simp; done) | (simp; omega)) _ | with_reducible refine Below.setCell ?_ (by first | omega | (simp; done) | (simp; omega)) _))) (by first | exact ints_new2 w11 0 1 3 (by omega) (by omega) | (refine Ints.mono ?_ hb11; first | exact ints_new2 w10 0 1 3 (by omega) (by omega) | exact (ints_new2 w10 0 1 3 (by omega) (by omega)).mono (below1 _ _) | (have h := ints_new2 (w10.alloc (.cells #[.int .i64 0, .int .i64 1] 3)) 0 1 3 (by omega) (by omega); simp only [World.size_alloc] at h; exact h))) hn5).mono ?_; rintro e w12 ⟨o12, rfl, hl12, hb12⟩; have hb12' : Below w5.heap.size w5 w12 := bthen (by repeat (first | with_reducible exact Below.refl _ _ | with_reducible assumption | with_reducible refine Below.drew ?_ | with_reducible refine Below.alloc ?_ (by first | omega | (simp; done) | (simp; omega)) _ | with_reducible refine Below.setCell ?_ (by first | omega | (simp; done) | (simp; omega)) _)) hb12; obtain ⟨a12, c12, rfl⟩ := hl12.slice; have HR12 := Lib.hid (groups_rows2 hl12 hn5); have HR11b := Lib.hid ((HR11.out.mono (by repeat (first | with_reducible exact Below.refl _ _ | with_reducible assumption | with_reducible refine Below.drew ?_ | with_reducible refine Below.alloc ?_ (by first | omega | (simp; done) | (simp; omega)) _ | with_reducible refine Below.setCell ?_ (by first | omega | (simp; done) | (simp; omega)) _))).mono hb12); clear hl12 hb12)
      | (go_at_call 17; refine (lists_same _ _ _ _ HR11b.out HR12.out).mono ?_; rintro e w13 ⟨rfl, hb13⟩; have hb13' := bthen hb12' hb13; clear hb13))
    all_goals
      go_wp2
      go_ret
      exact ⟨rfl, bthen HB5w.out hb13'⟩
end Go.Proofs.YtoiemkifgdnhaaaGreatDoor
