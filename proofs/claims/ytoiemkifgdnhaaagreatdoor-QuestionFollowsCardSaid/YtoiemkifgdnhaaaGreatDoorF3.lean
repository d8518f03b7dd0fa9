/- QuestionFollows: the walk. No conditions. -/
import Derived.Test.YtoiemkifgdnhaaaGreatDoorF2
import Derived.Test.YtoiemkifgdnhaaaGreatDoorF1
import Derived.Test.YtoiemkifgdnhaaaGreatDoorM2
namespace Go.Proofs.YtoiemkifgdnhaaaGreatDoor
open Go Go.RowKit
theorem Vals.take {w : World} {ao : Option Addr} {cap : Nat} {X : List Nat} {n : Nat} (h : Vals w (.slice ao X.length cap) X) (hn : n ≤ X.length) : Vals w (.slice ao n cap) (X.take n) := by
  obtain ⟨⟨a, c, e, h1, h2⟩, h3, h4⟩ := h
  simp only [Value.slice.injEq, true_and] at e
  obtain ⟨rfl, rfl⟩ := e
  have hl : (X.take n).length = n := by simp; omega
  refine ⟨⟨ao, cap, by rw [hl], by rw [hl]; omega, fun hne => ?_⟩, by rw [hl]; omega, fun x hx => h4 x (List.mem_of_mem_take hx)⟩
  rw [hl] at hne
  obtain ⟨b, off, e, hb, hc⟩ := h2 (by omega)
  refine ⟨b, off, e, hb, fun k hk => ?_⟩
  rw [hl] at hk
  have e2 : (X.take n).getD k 0 = X.getD k 0 := by simp [List.getD_eq_getElem?_getD, List.getElem?_take, hk]
  rw [e2]
  exact hc k (by omega)
theorem planOk_make {A : List (List Nat)} {h : Int} (hr : rightS A = true) (h1 : A.length ≤ 12) (h2 : inputsS A ≤ 10) : PlanOk (makeS A h) := by
  by_cases he : makeE A h = 0
  · have hs : makeS A h = makeP A := by unfold makeS; rw [if_pos he]
    have h3 := lower_dep hr (ok_of hr h1 h2)
    have h4 := dep_le A (inputsS A) (fullS A)
    have h5 := make_ok (A := A) (h := h)
    rw [hs] at h5 ⊢
    exact ⟨planF_next _ _ _ _ _, h5.1, h5.2, by show dep A (inputsS A) (fullS A) ≤ 1000; omega, by show lowerS A ≤ 1000; omega⟩
  · have hs : makeS A h = ⟨[], 0, 0⟩ := by unfold makeS; rw [if_neg he]
    rw [hs]
    exact ⟨by simp, by simp, by simp, by simp, by simp⟩
theorem zv_fst (l : List Nat) : (zv l).map (·.1) = l := zv_map l
set_option maxRecDepth 100000 in
set_option maxHeartbeats 1000000 in
theorem Follows_walk (w : World) (v b : Value) (L : List (List Int)) (X : List Int) (q0 q1 q2 : Int) (hv : IntRows w v L) (hX : Ints w b X) (hG : G w) (hT : GT w) (hq2 : -9223372036854775808 ≤ q2 ∧ q2 ≤ 9223372036854775807) :
    Calls Tryz.prog 6 #[v, b, .agg #[.int .i64 q0, .int .i64 q1, .int .i64 q2]] w (TruePost w) := by
  have HV := Lib.hid hv; have HG := Lib.hid hG; have HT := Lib.hid hT; have HX := Lib.hid hX
  obtain ⟨ao, ac, rfl, hv1⟩ := hv.1.open
  obtain ⟨xo, xc, rfl, hx1⟩ := hX.1.open
  have hx2 := hX.2.1
  have hv2 := hv.2
  obtain ⟨n, hn⟩ : ∃ n, n = min L.length 7 := ⟨_, rfl⟩
  have hmin : min (L.length : Int) 7 = n := by omega
  have hn0 : (0 : Int) ≤ n := by omega
  have hn1 : (n : Int) ≤ ac := by omega
  have hnl : n ≤ L.length := by omega
  have hnt : (L.take n).length = n := by simp; omega
  have hn7 : n ≤ 7 := by omega
  obtain ⟨hr, hal, hin⟩ := made_right (L.take n)
  rw [hnt] at hal
  obtain ⟨A, hA⟩ : ∃ A, A = madeS (L.take n) := ⟨_, rfl⟩
  rw [← hA] at hr hal hin
  have hA7 : A.length ≤ 7 := by omega
  have HA := Lib.hid hA
  have HPO := Lib.hid (planOk_make (h := 6) hr (by omega) hin)
  obtain ⟨i0, hi, hz0, hz1, hz2⟩ := info_parts info_value
  have Hi := Lib.hid hi; have Hz0 := Lib.hid hz0; have Hz1 := Lib.hid hz1; have Hz2 := Lib.hid hz2
  obtain ⟨M, hM⟩ : ∃ M, M = min X.length 8 := ⟨_, rfl⟩
  have hM8 : M ≤ 8 := by omega
  have hMX : M ≤ X.length := by omega
  have HM := Lib.hid hM
  clear hal hM hv hX hG hT hn hA hr hnt hi hz0 hz1 hz2
  have b0 := below1 w (.cells #[.int .i64 q0, .int .i64 q1, .int .i64 q2] 49)
  go_enter Tryz.func6, Tryz.ntmps6
  go_wp2_with fail
  refine (sanity_call _ (HG.out.mono b0) (HT.out.mono b0)).mono ?_
  rintro e w1 ⟨rfl, hb1⟩
  have e0 : w1.cell? ⟨w.heap.size, 0, none⟩ = some (.int .i64 q0) := (olds hb1 _ _ (by simp)).trans (by simp)
  have e1 : w1.cell? ⟨w.heap.size, 1, none⟩ = some (.int .i64 q1) := (olds hb1 _ _ (by simp)).trans (by simp)
  have e2 : w1.cell? ⟨w.heap.size, 2, none⟩ = some (.int .i64 q2) := (olds hb1 _ _ (by simp)).trans (by simp)
  have z1 : w.heap.size < w1.heap.size := by have := hb1.size; simp at this; omega
  have HB1 := Lib.hid (bthen b0 hb1)
  clear b0 hb1
  go_wp2_with fail
  refine (Made_call _ _ (L.take n) ((HV.out.take hnl).mono HB1.out)).mono ?_
  rintro e w2 ⟨o2, rfl, ho2, hb2⟩
  rw [← HA.out] at ho2
  have hva : ValRows w2 o2 A := by have := ho2; rw [HA.out] at this ⊢; exact this.made
  obtain ⟨oa, oc, rfl, _⟩ := hva.1.open
  have HVA := Lib.hid hva
  have e0 := (olds hb2 _ _ z1).trans e0
  have e1 := (olds hb2 _ _ z1).trans e1
  have e2 := (olds hb2 _ _ z1).trans e2
  have z2 := Nat.lt_of_lt_of_le z1 hb2.size
  have HB2 := Lib.hid (bthen HB1.out hb2)
  clear hva ho2 hb2
  go_wp2_with fail
  refine (MakeR_call _ _ A 6 HVA.out).mono ?_
  rintro e w3 ⟨p3, rfl, hp3, hb3⟩
  have hP3 := hp3.reads
  obtain ⟨pm, hpm⟩ : ∃ pm, pm = makeS A 6 := ⟨_, rfl⟩
  rw [← hpm] at hP3
  obtain ⟨pv, rfl, hq3⟩ := hP3
  obtain ⟨pa, pc, rfl, _⟩ := hq3.1.open
  have HPM := Lib.hid hpm; have HQ3 := Lib.hid hq3
  have e0 := (olds hb3 _ _ z2).trans e0
  have e1 := (olds hb3 _ _ z2).trans e1
  have e2 := (olds hb3 _ _ z2).trans e2
  have z3 := Nat.lt_of_lt_of_le z2 hb3.size
  have HB3 := Lib.hid (bthen HB2.out hb3)
  obtain ⟨ee, hee⟩ : ∃ ee, ee = makeE A 6 := ⟨_, rfl⟩
  rw [← hee]
  clear hp3 hpm hq3 hb3 hee
  go_wp2_with fail
  obtain ⟨pl, hpl⟩ : ∃ pl, pl = (planI pm).asks.length := ⟨_, rfl⟩
  obtain ⟨dp, hdp⟩ : ∃ dp, dp = (planI pm).depth := ⟨_, rfl⟩
  obtain ⟨lo, hlo⟩ : ∃ lo, lo = (planI pm).lower := ⟨_, rfl⟩
  rw [← hpl, ← hdp, ← hlo]
  obtain ⟨W3, hW3⟩ : ∃ W3, W3 = w3.alloc (.cells #[.slice pa pl pc, .int .i64 dp, .int .i64 lo] 29) := ⟨_, rfl⟩
  rw [← hW3]
  have hT8 := Tri.new w3 (.slice pa pl pc) (.int .i64 dp) (.int .i64 lo) 29
  have hbW : Below w3.heap.size w3 W3 := by rw [hW3]; exact below1 _ _
  rw [← hW3] at hT8
  have HP0 : RowKit.Hid (PlanAt W3 (.agg #[.slice pa pl pc, .int .i64 dp, .int .i64 lo]) (planI pm)) := Lib.hid ⟨_, by rw [hpl, hdp, hlo], HQ3.out.mono hbW⟩
  have e0 := (olds hbW _ _ z3).trans e0
  have e1 := (olds hbW _ _ z3).trans e1
  have e2 := (olds hbW _ _ z3).trans e2
  have z4 := Nat.lt_of_lt_of_le z3 hbW.size
  obtain ⟨p0, p1, p2, _, z5⟩ := hT8
  have HBW := Lib.hid (bthen HB3.out hbW)
  clear hpl hdp hlo hW3 hbW
  go_loopw [10, 11] (fun vs i wr => ∃ j : Nat, j ≤ M ∧ i = .int .i64 j ∧ wr.ownsRow W3.heap.size 47 7 vs j (cvs (zv ((X.take j).map valOf))) ∧ Below W3.heap.size W3 wr) (fun _ i _ => M - (intOf i).toNat)
  case atStart => exact ⟨0, by omega, rfl, World.ownsRow_nil _ _ _ _, Below.refl _ _⟩
  case round =>
    obtain ⟨j, hj, rfl, ho, hb⟩ := hrel
    have HO := Lib.hid ho; have HBB := Lib.hid hb
    obtain ⟨va_, vc, rfl⟩ := own_slice ho
    by_cases hlt : j < M
    · have q1 : (j : Int) < X.length := by omega
      have q2' : (j : Int) < 8 := by have := HM.out; omega
      have q3 : 0 ≤ (j : Int) := by omega
      obtain ⟨bx, ox, rfl, gx, px⟩ := (HX.out.mono (bthen HBW.out hb)).1.at (show j < X.length by omega)
      simp only [Nat.mul_one] at px
      obtain ⟨x, hx⟩ : ∃ x, x = X.getD j 0 := ⟨_, rfl⟩
      rw [← hx] at px
      have HXX := Lib.hid hx
      clear ho hb hx
      go_wp2_with (first | (go_at_call 24; refine (Value_call x _).mono ?_; rintro e w9 ⟨rfl, hb9⟩) | (at_builtin; refine wpList_app rfl (.tmp 40) (.tmp 46) 42 rfl W3.heap.size 47 i0 _ 7 96 und_vals Hi.out Hz0.out Hz1.out Hz2.out rfl (by decide) _ _ _ rfl ((own_below HO.out hb9).alloc _) ⟨w9.heap.size, 0, none⟩ 1 1 (cv (valOf x, none, 0)) rfl rfl (One.cells (heap_alloc_new w9 _)) (cvs_one' (valOf x, none, 0)) (by unfold maxLen; omega) (by omega) (by have := HBB.out.size; have := hb9.size; simp; omega) ?_; intro v' w10 hown hgr hfr))
      have hb19 := bthen HBB.out hb9
      refine ⟨⟨j + 1, by omega, by go_num, ?_, (hb19.alloc hb19.size _).grown hgr (by have := hb19.size; simp; omega) (fun g hg => (HO.out.lt g hg).1)⟩, by simp [intOf]; omega⟩
      have e : (X.take (j + 1)).map valOf = (X.take j).map valOf ++ [valOf x] := by
        rw [List.take_succ_eq_append_getElem (by omega), List.map_append, HXX.out, List.getD_eq_getElem?_getD, List.getElem?_eq_getElem (by omega)]; rfl
      rw [e, zv_snoc, cvs_snoc]
      exact hown
    · have hjM : j = M := by omega
      subst hjM
      obtain ⟨ys, hys⟩ : ∃ ys, ys = (X.take j).map valOf := ⟨_, rfl⟩
      have hyl : ys.length = j := by rw [hys]; simp; omega
      have hvs : Vals wr (.slice va_ j vc) ys := by
        have h1 := ho
        rw [← hys] at h1
        have h2 := own_vals h1 (by rw [zv_len]; omega) (fun z hz => by
          obtain ⟨x, hx, rfl⟩ := List.mem_map.1 hz
          rw [hys] at hx
          obtain ⟨t, _, rfl⟩ := List.mem_map.1 hx
          have := valOf_le t
          show valOf t ≤ 10; omega)
        rwa [zv_fst] at h2
      have hcap : (j : Int) ≤ vc := by
        obtain ⟨a, c, e, h1⟩ := hvs.1.open
        simp only [Value.slice.injEq] at e
        have := e.2.2; omega
      have HVS := Lib.hid hvs; have HYL := Lib.hid hyl
      have x0 := (olds hb _ _ z4).trans e0
      have x1 := (olds hb _ _ z4).trans e1
      have x2 := (olds hb _ _ z4).trans e2
      have x3 := (olds hb _ _ z5).trans p0
      have x4 := (olds hb _ _ z5).trans p1
      have x5 := (olds hb _ _ z5).trans p2
      have z6 := Nat.lt_of_lt_of_le z4 hb.size
      have z7 := Nat.lt_of_lt_of_le z5 hb.size
      have HMM := Lib.hid hj
      have hex : (¬ (j : Int) < X.length) ∨ ((j : Int) < X.length ∧ ¬ (j : Int) < 8) := by have := HM.out; omega
      clear ho hb hys hyl hvs e0 e1 e2 p0 p1 p2 hj hlt
      rcases hex with hex | ⟨hex, hex2⟩
      all_goals
        go_wp2_with fail
        go_region_held3 (fun w' => wr.heap.size ≤ w'.heap.size ∧ ∀ b o, b < wr.heap.size → w'.cell? ⟨b, o, none⟩ = wr.cell? ⟨b, o, none⟩) (first | with_reducible exact ks (Below.refl _ _) | exact ks (by repeat (first | with_reducible exact Below.refl _ _ | with_reducible assumption | with_reducible refine Below.drew ?_ | with_reducible refine Below.alloc ?_ (by first | omega | (simp; done) | (simp; omega)) _ | with_reducible refine Below.setCell ?_ (by first | omega | (simp; done) | (simp; omega)) _))) (first | (go_at_call 25; refine (Bent_call _ _ pm q0 q1 q2 (HP0.out.mono HBB.out.drew) (by rw [HPM.out]; exact HPO.out) hq2).mono ?_; rintro e w9 ⟨xv, rfl, ⟨P1, hP1⟩, hb9⟩; obtain ⟨xw, rfl, hq1⟩ := hP1; obtain ⟨xa, xc, rfl, _⟩ := hq1.1.open; have hb9' := bdrew hb9; have HQ1 := Lib.hid hq1; clear hq1 hb9))
        obtain ⟨xl, hxl⟩ : ∃ xl, xl = P1.asks.length := ⟨_, rfl⟩
        obtain ⟨xd, hxd⟩ : ∃ xd, xd = P1.depth := ⟨_, rfl⟩
        obtain ⟨xo_, hxo⟩ : ∃ xo_, xo_ = P1.lower := ⟨_, rfl⟩
        obtain ⟨W9, hW9⟩ : ∃ W9, W9 = w9.alloc (.cells #[.slice pa pl pc, .int .i64 dp, .int .i64 lo, .slice xa P1.asks.length xc, .int .i64 P1.depth, .int .i64 P1.lower] 29) := ⟨_, rfl⟩
        have hbW9 : Below w9.heap.size w9 W9 := by rw [hW9]; exact below1 _ _
        rw [← hW9]
        rw [← hxl, ← hxd, ← hxo] at hW9
        have c0 : W9.cell? ⟨w9.heap.size, 0, none⟩ = some (.slice pa pl pc) := by rw [hW9]; simp
        have c1 : W9.cell? ⟨w9.heap.size, 1, none⟩ = some (.int .i64 dp) := by rw [hW9]; simp
        have c2 : W9.cell? ⟨w9.heap.size, 2, none⟩ = some (.int .i64 lo) := by rw [hW9]; simp
        have c3 : W9.cell? ⟨w9.heap.size, 3, none⟩ = some (.slice xa xl xc) := by rw [hW9]; simp
        have c4 : W9.cell? ⟨w9.heap.size, 4, none⟩ = some (.int .i64 xd) := by rw [hW9]; simp
        have c5 : W9.cell? ⟨w9.heap.size, 5, none⟩ = some (.int .i64 xo_) := by rw [hW9]; simp
        have zT : w9.heap.size < W9.heap.size := by rw [hW9]; simp
        have hbr9 := bthen hb9' hbW9
        have HPA := Lib.hid (HP0.out.mono (bthen HBB.out hbr9))
        have HPB : RowKit.Hid (PlanAt W9 (.agg #[.slice xa xl xc, .int .i64 xd, .int .i64 xo_]) P1) := Lib.hid ⟨_, by rw [hxl, hxd, hxo], HQ1.out.mono hbW9⟩
        have HV9 := Lib.hid (HVS.out.mono hbr9)
        have HB9 := Lib.hid (bthen (bthen HBW.out HBB.out) hbr9)
        have C0 := Lib.hid c0; have C1 := Lib.hid c1; have C2 := Lib.hid c2; have C3 := Lib.hid c3; have C4 := Lib.hid c4; have C5 := Lib.hid c5
        clear hxl hxd hxo hW9 hbW9 hbr9 hb9' c0 c1 c2 c3 c4 c5 x0 x1 x2 x3 x4 x5
        go_wp2_with fail
        go_loopw [13, 14, 15, 16, 17, 18, 54, 61] (fun _ _ _ _ _ _ i _ wz => ∃ t : Nat, t ≤ 2 ∧ i = .int .i64 t ∧ Below W9.heap.size W9 wz) (fun _ _ _ _ _ _ i _ _ => 2 - (intOf i).toNat)
        case atStart => exact ⟨0, by omega, rfl, Below.refl _ _⟩
        case round =>
          obtain ⟨t, ht, rfl, hbz⟩ := hrel
          have HBZ := Lib.hid hbz
          by_cases hlt : t < 2
          · have y1 : (t : Int) < 2 := by omega
            have y0 : 0 ≤ (t : Int) := by omega
            obtain ⟨P, fa, fl, fc, fd, fo, hP, g0, g1, g2⟩ : ∃ (P : PlanI) (fa : Option Addr) (fl fc : Nat) (fd fo : Int), PlanAt wr (.agg #[.slice fa fl fc, .int .i64 fd, .int .i64 fo]) P ∧ wr.cell? ⟨w9.heap.size, t * 3, none⟩ = some (.slice fa fl fc) ∧ wr.cell? ⟨w9.heap.size, t * 3 + 1, none⟩ = some (.int .i64 fd) ∧ wr.cell? ⟨w9.heap.size, t * 3 + 2, none⟩ = some (.int .i64 fo) := by
              have : t = 0 ∨ t = 1 := by omega
              rcases this with rfl | rfl
              · exact ⟨_, _, _, _, _, _, HPA.out.mono hbz, (olds hbz _ _ zT).trans C0.out, (olds hbz _ _ zT).trans C1.out, (olds hbz _ _ zT).trans C2.out⟩
              · exact ⟨_, _, _, _, _, _, HPB.out.mono hbz, (olds hbz _ _ zT).trans C3.out, (olds hbz _ _ zT).trans C4.out, (olds hbz _ _ zT).trans C5.out⟩
            have HP := Lib.hid hP
            clear hbz hP
            go_wp2_with fail
            obtain ⟨Wz, hWz⟩ : ∃ Wz, Wz = wr.alloc (.cells #[.slice fa fl fc, .int .i64 fd, .int .i64 fo] 29) := ⟨_, rfl⟩
            have hbWz : Below wr.heap.size wr Wz := by rw [hWz]; exact below1 _ _
            have hTz := Tri.new wr (.slice fa fl fc) (.int .i64 fd) (.int .i64 fo) 29
            rw [← hWz] at hTz
            rw [← hWz]
            obtain ⟨k0, k1, k2, _, k3⟩ := hTz
            have HZZ := Lib.hid (bthen HBZ.out hbWz)
            have HPZ := Lib.hid (HP.out.mono hbWz)
            have HVZ := Lib.hid (HV9.out.mono HZZ.out)
            have K0 := Lib.hid k0; have K1 := Lib.hid k1; have K2 := Lib.hid k2
            clear hWz hbWz g0 g1 g2 k0 k1 k2
            go_loopw [14, 15, 16, 17, 18, 61] (fun _ _ _ _ _ i wy => ∃ m : Nat, m ≤ j + 1 ∧ i = .int .i64 m ∧ Below Wz.heap.size Wz wy) (fun _ _ _ _ _ i _ => j + 1 - (intOf i).toNat)
            case atStart => exact ⟨0, by omega, rfl, Below.refl _ _⟩
            case round =>
              obtain ⟨m, hm, rfl, hby⟩ := hrel
              have HBY := Lib.hid hby
              by_cases hlm : m < j + 1
              · have u1 : (m : Int) < (j : Int) + 1 := by omega
                have u0 : 0 ≤ (m : Int) := by omega
                have u2 : (m : Int) ≤ vc := by omega
                have l0 := (olds hby _ _ k3).trans K0.out
                have l1 := (olds hby _ _ k3).trans K1.out
                have l2 := (olds hby _ _ k3).trans K2.out
                have l3 := Nat.lt_of_lt_of_le k3 hby.size
                have HPY := Lib.hid (HPZ.out.mono hby)
                have HVY : RowKit.Hid (Vals wr (.slice va_ m vc) (ys.take m)) := Lib.hid (Vals.take (by rw [HYL.out]; exact HVZ.out.mono hby) (by rw [HYL.out]; omega))
                obtain ⟨r1, r2, hR⟩ : ∃ r1 r2, (r1, r2) = followS P.asks (ys.take m) := ⟨_, _, rfl⟩
                have HR1 : RowKit.Hid ((followS P.asks (ys.take m)).1 = r1) := Lib.hid (by rw [← hR])
                have HR2 : RowKit.Hid ((followS P.asks (ys.take m)).2 = r2) := Lib.hid (by rw [← hR])
                have v1 : (r1 != r1) = false := by simp
                have v2 : (r2 != r2) = false := by simp
                clear hby hR
                go_wp2_with fail
                go_region_held3 (fun w' => wr.heap.size ≤ w'.heap.size ∧ ∀ b o, b < wr.heap.size → w'.cell? ⟨b, o, none⟩ = wr.cell? ⟨b, o, none⟩) (first | with_reducible exact ks (Below.refl _ _) | exact ks (by repeat (first | with_reducible exact Below.refl _ _ | with_reducible assumption | with_reducible refine Below.drew ?_ | with_reducible refine Below.alloc ?_ (by first | omega | (simp; done) | (simp; omega)) _ | with_reducible refine Below.setCell ?_ (by first | omega | (simp; done) | (simp; omega)) _))) (first | (go_at_call 26; refine (Follow_call _ _ _ P (ys.take m) (HPY.out.mono (Below.refl _ _).drew) (HVY.out.mono (Below.refl _ _).drew)).mono ?_; rintro e w5 ⟨rfl, hb5⟩; rw [HR1.out, HR2.out]; have hb5' := bdrew hb5; clear hb5))
                have HB5 := Lib.hid hb5'
                have l0 := (olds hb5' _ _ l3).trans l0
                have l1 := (olds hb5' _ _ l3).trans l1
                have l2 := (olds hb5' _ _ l3).trans l2
                have l3 := Nat.lt_of_lt_of_le l3 hb5'.size
                clear hb5'
                go_wp2_with fail
                go_region_held3 (fun w' => w5.heap.size ≤ w'.heap.size ∧ ∀ b o, b < w5.heap.size → w'.cell? ⟨b, o, none⟩ = w5.cell? ⟨b, o, none⟩) (first | with_reducible exact ks (Below.refl _ _) | exact ks (by repeat (first | with_reducible exact Below.refl _ _ | with_reducible assumption | with_reducible refine Below.drew ?_ | with_reducible refine Below.alloc ?_ (by first | omega | (simp; done) | (simp; omega)) _ | with_reducible refine Below.setCell ?_ (by first | omega | (simp; done) | (simp; omega)) _))) (first | (go_at_call 27; refine (FollowR_call _ _ _ P (ys.take m) (HPY.out.mono HB5.out.drew) (HVY.out.mono HB5.out.drew)).mono ?_; rintro e w6 ⟨rfl, hb6⟩; rw [HR1.out, HR2.out]; have hb6' := bdrew hb6; clear hb6))
                have HB6 := Lib.hid hb6'
                clear hb6' l0 l1 l2
                go_wp2
                exact ⟨⟨m + 1, by omega, by go_num, bthen (bthen HBY.out HB5.out) HB6.out⟩, by simp [intOf]; omega⟩
              · have hmj : m = j + 1 := by omega
                subst hmj
                clear hby
                go_wp2
                exact ⟨⟨t + 1, by omega, by go_num, bthen HZZ.out HBY.out⟩, by simp [intOf]; omega⟩
          · have ht2 : t = 2 := by omega
            subst ht2
            clear hbz
            go_wp2
            go_ret
            exact ⟨rfl, bthen HB9.out HBZ.out⟩
end Go.Proofs.YtoiemkifgdnhaaaGreatDoor
