/- A plan's check by the reference: the questions one behind another. Conditions: sets of twelve programs at most.
  Check, and the reference's, where nothing is accepted: the walks. Conditions: 500 programs at most, each value one of the eleven.
  The reference's check of a plan that was made: the walk; both checks for all horizons. Conditions: 13 programs at most, each value one of the eleven. -/
import Derived.Test.YtoiemkifgdnhaaaGreatDoorM2
import Derived.Test.YtoiemkifgdnhaaaGreatDoorK2
import Derived.Deep.RegionHeldLaw
import Derived.Test.YtoiemkifgdnhaaaGreatDoorL14
namespace Go.Proofs.YtoiemkifgdnhaaaGreatDoor
open Go Go.RowKit
def seqI (n k : Nat) : List Int := (List.range k).map fun j => ((n + j : Nat) : Int)
theorem seqI_len (n k : Nat) : (seqI n k).length = k := by simp [seqI]
theorem seqI_add (n a b : Nat) : seqI n (a + b) = seqI n a ++ seqI (n + a) b := by
  unfold seqI
  rw [List.range_add, List.map_append, List.map_map]
  congr 1
  apply List.map_congr_left
  intro x _
  show ((n + (a + x) : Nat) : Int) = ((n + a + x : Nat) : Int)
  congr 1; omega
theorem ci_append (a b : List Int) : ci (a ++ b) = ci a ++ ci b := by simp [ci]
def WalkPost (d n k : Nat) (w : World) (e : Ending) (w' : World) : Prop := ∃ v, e = .returned (.tuple #[.int .i64 d, v, .bool true]) ∧ w'.ownsRow w.heap.size 3 1 v k (ci (seqI n k)) ∧ Below w.heap.size w w'
set_option maxRecDepth 100000 in
set_option maxHeartbeats 2000000 in
theorem walkR_step (A : List (List Nat)) (m f s n : Nat) (qs : List Ask) (dp lo : Int) (w : World) (a v : Value) (pa : Option Addr) (pc : Nat) (hok : Ok A m) (hm : m = inputsS A) (hs : s < 2 ^ A.length) (hd : dep A m s ≠ 0) (hp : Placed A m (f + 1) s n qs) (hql : qs.length ≤ 500)
    (ha : ValRows w a A) (hq : AskRows w (.slice pa qs.length pc) (qs.map askI)) (hv : Ints w v (pInts (bitsOf s)))
    (hD : ∀ t n' w a' v', t < 2 ^ A.length → (bitsOf t).length < (bitsOf s).length → dep A m t ≠ 0 → Placed A m f t n' qs → ValRows w a' A → AskRows w (.slice pa qs.length pc) (qs.map askI) → Ints w v' (pInts (bitsOf t)) →
      Calls Tryz.prog 56 #[a', .agg #[.slice pa qs.length pc, .int .i64 dp, .int .i64 lo], .int .i64 n', v'] w (WalkPost (dep A m t) n' (planF A m f t n').length w)) :
    Calls Tryz.prog 56 #[a, .agg #[.slice pa qs.length pc, .int .i64 dp, .int .i64 lo], .int .i64 n, v] w (WalkPost (dep A m s) n (planF A m (f + 1) s n).length w) := by
  have HI := Lib.hid (inp_spec hd)
  obtain ⟨hn, hfi⟩ := hp.first hd
  have HPL := Lib.hid hp
  have hq1 : (n : Int) < qs.length := by omega
  have hq2 : (0 : Int) ≤ n := by omega
  obtain ⟨i0, hi, hz0, hz1, hz2⟩ := info_parts info_int
  have Hi := Lib.hid hi; have Hz0 := Lib.hid hz0; have Hz1 := Lib.hid hz1; have Hz2 := Lib.hid hz2
  obtain ⟨b2, o2, rfl, g2, hask⟩ := hq.1.at (show n < (qs.map askI).length by simpa using hn)
  rw [hfi] at hask
  obtain ⟨r0, ⟨va_, vc, r1, r2⟩, ⟨na, nc, r3, r4⟩⟩ := hask
  obtain ⟨gs, hgs⟩ : ∃ gs, gs = divS A (inp A m s) s := ⟨_, rfl⟩
  obtain ⟨k, hk⟩ : ∃ k, k = inp A m s := ⟨_, rfl⟩
  simp only [askI] at r0 r1 r2 r3 r4
  rw [← hgs] at r1 r2 r3 r4
  rw [← hk] at r0
  rw [stepF_len] at r3 r4
  rw [List.length_map] at r1 r2
  have HR2 := Lib.hid r2; have HR4 := Lib.hid r4
  have hkm : k < m := by rw [hk]; exact HI.out.1
  have hm10 := hok.m10
  have hlaw := gfold_law A k (bitsOf s)
  have HF1 := Lib.hid (show (gfold A k (bitsOf s)).1 = gs.map (·.1) by rw [hk, hgs]; exact divS_fst _ _ _)
  have HF2 := Lib.hid (show (gfold A k (bitsOf s)).2 = gs.map (fun g => pInts (bitsOf g.2)) by rw [hk, hgs]; exact divS_snd _ _ _)
  have HLAW := Lib.hid hlaw
  have hg12 : gs.length ≤ 12 := by rw [hgs]; exact Nat.le_trans (divS_len _ _ _) (bits_len _)
  have HGV := Lib.hid (show ∀ g ∈ gs, g.1 ≤ 10 from fun g hg => by rw [hgs, ← hk] at hg; exact divS_val (b := 10) hok.row hkm hs hg)
  have hge2 : 2 ≤ gs.length := by rw [hgs]; exact HI.out.2.2.2
  have hg2i : ¬ (gs.length : Int) < 2 := by omega
  have hgn : ((gs.length : Int) != gs.length) = false := by simp
  have HK := Lib.hid hk; have HGS := Lib.hid hgs; have HV := Lib.hid hv; have HA := Lib.hid ha; have HOK := Lib.hid hok; have HD := Lib.hid hD; have HM := Lib.hid hm; have HS := Lib.hid hs; have HDD := Lib.hid hd; have HQ := Lib.hid hq
  obtain ⟨ao, ac, rfl, ha1⟩ := ha.1.open
  obtain ⟨vo, vcap, rfl, hv1⟩ := hv.1.open
  clear hk hgs hv ha hok hD hm hp hs hd hq r2 r4 hfi hlaw hi hz0 hz1 hz2
  go_enter Tryz.func56, Tryz.ntmps56
  go_wp2
  obtain ⟨W1, hW1⟩ : ∃ W1, W1 = (w.alloc (.cells #[.slice (some ⟨b2, o2, none⟩) qs.length pc, .int .i64 dp, .int .i64 lo] 29)).alloc (.cells #[.int .i64 k, .slice va_ gs.length vc, .slice na gs.length nc] 59) := ⟨_, rfl⟩
  have b1 : Below w.heap.size w W1 := by rw [hW1]; exact below2 _ _ _
  have hT5 := (Tri.new w (.slice (some ⟨b2, o2, none⟩) qs.length pc) (.int .i64 dp) (.int .i64 lo) 29).mono (below1 _ (.cells #[.int .i64 k, .slice va_ gs.length vc, .slice na gs.length nc] 59))
  have hT11 := Tri.new (w.alloc (.cells #[.slice (some ⟨b2, o2, none⟩) qs.length pc, .int .i64 dp, .int .i64 lo] 29)) (.int .i64 k) (.slice va_ gs.length vc) (.slice na gs.length nc) 59
  rw [← hW1] at hT5 hT11
  rw [← hW1]
  simp only [World.size_alloc] at hT11
  obtain ⟨p0, p1, p2, _, pl⟩ := hT5
  obtain ⟨t0, t1, t2, _, tl⟩ := hT11
  have hd1 : decide ((k : Int) < 0) = false := by simp <;> omega
  have hd2 : decide ((m : Int) ≤ k) = false := by simp; omega
  have B1 := Lib.hid b1
  clear hW1 b1 r0 r1 r3
  go_region_held3 (fun w' => W1.heap.size ≤ w'.heap.size ∧ ∀ b o, b < W1.heap.size → w'.cell? ⟨b, o, none⟩ = W1.cell? ⟨b, o, none⟩) (first | with_reducible exact ks (Below.refl _ _) | exact ks (by repeat (first | with_reducible exact Below.refl _ _ | with_reducible assumption | with_reducible refine Below.drew ?_ | with_reducible refine Below.alloc ?_ (by first | omega | (simp; done) | (simp; omega)) _ | with_reducible refine Below.setCell ?_ (by first | omega | (simp; done) | (simp; omega)) _))) (first | (go_at_call 16; refine (Inputs_call _ _ A (HA.out.mono B1.out.drew)).mono ?_; rintro e w2 ⟨rfl, rfl⟩; rw [← HM.out]))
  go_wp2_with fail
  refine (Split_call _ _ _ A (bitsOf s) k m (HA.out.mono B1.out.drew) (HV.out.mono B1.out.drew) (fun l hl => (HOK.out.row l hl).1) hkm (fun p hp => bits_lt_pow HS.out hp) (by have := bits_len s; omega)).mono ?_
  rintro e w3 ⟨o3, rfl, hl3, hb3⟩
  have hb3 := bdrew hb3
  rw [HF2.out] at hl3
  obtain ⟨oa, oc, rfl⟩ := hl3.slice
  rw [List.length_map]
  have hIR := hl3.rows (by simp; omega) (fun l hl => by
    obtain ⟨g, _, rfl⟩ := List.mem_map.1 hl
    refine ⟨by rw [pInts_len]; have := bits_len g.2; omega, fun x hx => ?_⟩
    simp only [pInts, List.mem_map] at hx
    obtain ⟨p, hp, rfl⟩ := hx
    have := bits_lt hp; omega)
  rw [List.length_map] at hIR
  have x0 := (olds hb3 _ _ pl).trans p0
  have x1 := (olds hb3 _ _ pl).trans p1
  have x2 := (olds hb3 _ _ pl).trans p2
  have y0 := (olds hb3 _ _ tl).trans t0
  have y1 := (olds hb3 _ _ tl).trans t1
  have y2 := (olds hb3 _ _ tl).trans t2
  have xl := Nat.lt_of_lt_of_le pl hb3.size
  have yl := Nat.lt_of_lt_of_le tl hb3.size
  have HB3 := Lib.hid (bthen B1.out hb3)
  have HIR := Lib.hid hIR
  have X0 := Lib.hid x0; have X1 := Lib.hid x1; have X2 := Lib.hid x2; have Y0 := Lib.hid y0; have Y1 := Lib.hid y1; have Y2 := Lib.hid y2
  clear hl3 hb3 hIR p0 p1 p2 t0 t1 t2 pl tl hd1 hd2
  go_wp2_with fail
  have ho4 := own_new w3 w3.heap.size 3 1 1 [.int .i64 n] (Nat.le_refl _) rfl (by unfold maxLen; omega)
  have hb4 : Below w3.heap.size w3 (w3.alloc (.cells #[.int .i64 n] 3)) := below1 _ _
  have HO4 := Lib.hid ho4; have HB4 := Lib.hid hb4
  clear ho4 hb4 x0 x1 x2 y0 y1 y2
  go_loopw [13, 14, 15, 16, 17, 18, 19, 20] (fun u13 u14 i _ _ _ _ _ wr => ∃ j : Nat, j ≤ gs.length ∧ i = .int .i64 j ∧ u13 = .int .i64 ((gs.take j).foldl (fun a g => max a (dep A m g.2)) 0 : Nat) ∧
    wr.ownsRow w3.heap.size 3 1 u14 (1 + (stepF A m f n (gs.take j)).2.length) (ci (seqI n (1 + (stepF A m f n (gs.take j)).2.length))) ∧ Below w3.heap.size w3 wr) (fun _ _ i _ _ _ _ _ _ => gs.length - (intOf i).toNat)
  case atStart => exact ⟨0, by omega, rfl, rfl, HO4.out, HB4.out⟩
  case round =>
    obtain ⟨j, hj, rfl, rfl, ho, hb⟩ := hrel
    have HO := Lib.hid ho; have HBB := Lib.hid hb
    have hmx : (gs.take j).foldl (fun a g => max a (dep A m g.2)) 0 ≤ 13 := max_le (gs := gs.take j) (dep_le A m) 0 (by omega)
    obtain ⟨sa, sc, rfl⟩ := own_slice ho
    have hRle : (stepF A m f n (gs.take j)).2.length ≤ 12 := by
      have h1 := stepF_le A m f n s k j (by rw [HK.out, ← HGS.out]; exact hj)
      have h2 := bits_len s
      rw [HK.out, ← HGS.out] at h1
      omega
    by_cases hlt : j < gs.length
    · have q1 : (j : Int) < gs.length := by omega
      have q2 : 0 ≤ (j : Int) := by omega
      have x0 := (olds hb _ _ xl).trans X0.out
      have x1 := (olds hb _ _ xl).trans X1.out
      have x2 := (olds hb _ _ xl).trans X2.out
      have y0 := (olds hb _ _ yl).trans Y0.out
      have y1 := (olds hb _ _ yl).trans Y1.out
      have y2 := (olds hb _ _ yl).trans Y2.out
      have xz := Nat.lt_of_lt_of_le xl hb.size
      have yz := Nat.lt_of_lt_of_le yl hb.size
      obtain ⟨g, hgg⟩ : ∃ g, g = gs[j] := ⟨_, rfl⟩
      have hgm : g ∈ gs := by rw [hgg]; exact List.getElem_mem _
      have hset : g.2 < 2 ^ A.length := set_lt HS.out (k := k) (by rw [HK.out, ← HGS.out]; exact hgm)
      have hcard : (bitsOf g.2).length < (bitsOf s).length := card_lt (k := k) (by rw [HK.out, ← HGS.out]; exact hgm) (by rw [HK.out, ← HGS.out]; exact hge2)
      obtain ⟨b5, o5, rfl, g5, ra, rc, u0, u1⟩ := (HIR.out.mono hb).1.at (show j < (gs.map fun g => pInts (bitsOf g.2)).length by simpa using hlt)
      have hgd : (gs.map fun g => pInts (bitsOf g.2)).getD j [] = pInts (bitsOf g.2) := by rw [List.getD_eq_getElem?_getD, List.getElem?_map, List.getElem?_eq_getElem hlt, hgg]; rfl
      rw [hgd] at u0 u1
      obtain ⟨q, rest, hqe, hqm, hqv⟩ := HLAW.out.head (show j < (gfold A k (bitsOf s)).1.length by rw [HF1.out, List.length_map]; exact hlt)
      have hqy : gval A k q = g.1 := by rw [hqv, HF1.out, List.getD_eq_getElem?_getD, List.getElem?_map, List.getElem?_eq_getElem hlt, ← hgg]; rfl
      have hqA : q < A.length := bits_lt_pow HS.out hqm
      have hqb : pInts (bitsOf g.2) = (q : Int) :: rest := by rw [← hgd, ← HF2.out]; exact hqe
      obtain ⟨ql, hql⟩ : ∃ ql, ql = (pInts (bitsOf g.2)).length := ⟨_, rfl⟩
      have hql0 : 0 < ql := by rw [hql, hqb]; simp
      rw [← hql] at u0
      have HU1 := Lib.hid u1
      rw [← hql] at u1
      obtain ⟨b7, o7, rfl, g7, c7⟩ := u1.1.at (show 0 < (pInts (bitsOf g.2)).length by omega)
      rw [hqb] at c7
      simp only [Nat.mul_one, Nat.zero_mul, Nat.add_zero, List.getD_cons_zero] at u0 c7
      obtain ⟨b8, o8, rfl, g8, ra2, rc2, z0, z1⟩ := (HA.out.mono (HB3.out.trans (hb.mono HB3.out.size))).1.at hqA
      have hrl : (A.getD q []).length = m := (HOK.out.row _ (by rw [List.getD_eq_getElem?_getD, List.getElem?_eq_getElem hqA]; exact List.getElem_mem _)).1
      rw [hrl] at z0 z1
      obtain ⟨b9, o9, rfl, g9, c9, d9, m0, m1, m2, m3, m4, m5, m6⟩ := z1.1.at (show k < (A.getD q []).length by rw [hrl]; exact hkm)
      simp only [Nat.mul_one] at z0
      rw [show (A.getD q []).getD k 0 = g.1 from hqy] at m0 m1 m2 m4
      obtain ⟨bA, oA, rfl, gA, cA, dA, n0, n1, n2, n3, n4, n5, n6⟩ := (HR2.out.mono (HB3.out.trans (hb.mono HB3.out.size))).1.at (show j < (gs.map (·.1)).length by simpa using hlt)
      have hgv : (gs.map (·.1)).getD j 0 = g.1 := by rw [List.getD_eq_getElem?_getD, List.getElem?_map, List.getElem?_eq_getElem hlt, ← hgg]; rfl
      rw [hgv] at n0 n1 n2 n4
      obtain ⟨bN, oN, rfl, gN, nN⟩ := (HR4.out.mono (HB3.out.trans (hb.mono HB3.out.size))).1.at (show j < (stepF A m f n gs).1.length by rw [stepF_len]; exact hlt)
      obtain ⟨hs1, hs2⟩ := stepF_at A m f n gs hlt
      rw [← hgg] at hs1
      rw [hs1] at nN
      have hsn : stepF A m f n (gs.take (j + 1)) = ((stepF A m f n (gs.take j)).1 ++ [if dep A m g.2 = 0 then -1 else ((n + 1 + (stepF A m f n (gs.take j)).2.length : Nat) : Int)], (stepF A m f n (gs.take j)).2 ++ planF A m f g.2 (n + 1 + (stepF A m f n (gs.take j)).2.length)) := by
        rw [List.take_succ_eq_append_getElem hlt, stepF_snoc, hgg]
      have hfold : (gs.take (j + 1)).foldl (fun a g => max a (dep A m g.2)) 0 = max ((gs.take j).foldl (fun a g => max a (dep A m g.2)) 0) (dep A m g.2) := by
        rw [List.take_succ_eq_append_getElem hlt, List.foldl_append, hgg]; rfl
      have hplc : Placed A m f g.2 (n + 1 + (stepF A m f n (gs.take j)).2.length) qs := by
        have := HPL.out.group HDD.out (i := j) (by rw [← HGS.out]; exact hlt)
        simp only [← HGS.out, ← hgg] at this
        exact this
      have hg10 : g.1 ≤ 10 := HGV.out g hgm
      obtain ⟨R, hR⟩ : ∃ R, R = (stepF A m f n (gs.take j)).2.length := ⟨_, rfl⟩
      obtain ⟨N, hN⟩ : ∃ N, N = n + 1 + R := ⟨_, rfl⟩
      rw [← hR] at hsn hplc nN HO hRle
      rw [← hN] at hsn hplc nN
      simp only [Nat.mul_one] at nN
      obtain ⟨M, hM⟩ : ∃ M, M = (gs.take j).foldl (fun a g => max a (dep A m g.2)) 0 := ⟨_, rfl⟩
      rw [← hM] at hmx hfold
      rw [← hM, ← hR]
      obtain ⟨y, hy⟩ : ∃ y, y = g.1 := ⟨_, rfl⟩
      rw [← hy] at m0 m1 m2 m4 n0 n1 n2 n4 hg10
      have hdle := dep_le A m g.2
      have e3 : (q : Int) < A.length := by omega
      have e4 : 0 ≤ (q : Int) := by omega
      have e5 : (k : Int) < m := by omega
      have e6 : 0 ≤ (k : Int) := by omega
      have e7 : (0 : Int) < ql := by omega
      have HN := Lib.hid hN; have HM' := Lib.hid hM; have HSN := Lib.hid hsn; have HFO := Lib.hid hfold; have HSET := Lib.hid hset; have HCARD := Lib.hid hcard; have HPLC := Lib.hid hplc; have HQL := Lib.hid hql; have HRR := Lib.hid hR
      clear ho hb hgg hgm hset hcard hgd hqe hqm hqv hqy hqb hql u1 z1 hrl hgv hs1 hs2 hsn hfold hplc hR hN hM hy
      go_wp2_with fail
      go_region_held3 (fun w' => wr.heap.size ≤ w'.heap.size ∧ ∀ b o, b < wr.heap.size → w'.cell? ⟨b, o, none⟩ = wr.cell? ⟨b, o, none⟩) (first | with_reducible exact ks (Below.refl _ _) | exact ks (by repeat (first | with_reducible exact Below.refl _ _ | with_reducible assumption | with_reducible refine Below.drew ?_ | with_reducible refine Below.alloc ?_ (by first | omega | (simp; done) | (simp; omega)) _ | with_reducible refine Below.setCell ?_ (by first | omega | (simp; done) | (simp; omega)) _))) (first | (go_at_call 29; refine (equal06 _ _ _ _ _ _ _ hg10 hg10).mono ?_; rintro e w5 ⟨rfl, hb5⟩; have hb5' := bdrew hb5; simp only [beq_self_eq_true]; clear hb5))
      have x0 := (olds hb5' _ _ xz).trans x0
      have x1 := (olds hb5' _ _ xz).trans x1
      have x2 := (olds hb5' _ _ xz).trans x2
      have y0 := (olds hb5' _ _ yz).trans y0
      have y1 := (olds hb5' _ _ yz).trans y1
      have y2 := (olds hb5' _ _ yz).trans y2
      have u0 := (olds hb5' _ _ g5).trans u0
      have nN := (olds hb5' _ _ gN).trans nN
      have xz := Nat.lt_of_lt_of_le xz hb5'.size
      have yz := Nat.lt_of_lt_of_le yz hb5'.size
      have g5 := Nat.lt_of_lt_of_le g5 hb5'.size
      have gN := Nat.lt_of_lt_of_le gN hb5'.size
      have HB5 := Lib.hid hb5'
      clear m0 m1 m2 m3 m4 m5 m6 n0 n1 n2 n3 n4 n5 n6 z0 c7 hb5'
      go_wp2_with fail
      refine (AlikeR_call _ _ _ A (bitsOf g.2) (HA.out.mono (HB3.out.trans ((HBB.out.trans (HB5.out.mono HBB.out.size)).mono HB3.out.size))) (by rw [HQL.out]; exact HU1.out.mono HB5.out) (fun p hp => bits_lt_pow HSET.out hp)).mono ?_
      rintro e w6 ⟨rfl, hb6⟩
      have x0 := (olds hb6 _ _ xz).trans x0
      have x1 := (olds hb6 _ _ xz).trans x1
      have x2 := (olds hb6 _ _ xz).trans x2
      have y0 := (olds hb6 _ _ yz).trans y0
      have y1 := (olds hb6 _ _ yz).trans y1
      have y2 := (olds hb6 _ _ yz).trans y2
      have u0 := (olds hb6 _ _ g5).trans u0
      have nN := (olds hb6 _ _ gN).trans nN
      have xz := Nat.lt_of_lt_of_le xz hb6.size
      have yz := Nat.lt_of_lt_of_le yz hb6.size
      have g5 := Nat.lt_of_lt_of_le g5 hb6.size
      have gN := Nat.lt_of_lt_of_le gN hb6.size
      have HB6 := Lib.hid (bthen HB5.out hb6)
      clear hb6
      by_cases hdz : dep A m g.2 = 0
      · rw [if_pos hdz] at nN
        rw [dep_zero HOK.out HSET.out hdz]
        have HDZ := Lib.hid hdz
        clear hdz
        go_wp2
        refine ⟨⟨j + 1, by omega, by go_num, by rw [HFO.out, HDZ.out, Nat.max_zero], ?_, HBB.out.trans (HB6.out.mono HBB.out.size)⟩, by simp [intOf]; omega⟩
        have e : (stepF A m f n (gs.take (j + 1))).2.length = R := by rw [HSN.out, planF_zero _ _ _ _ _ HDZ.out, List.append_nil]; exact HRR.out.symm
        rw [e]
        exact own_below HO.out HB6.out
      · rw [if_neg hdz] at nN
        obtain ⟨al, hal⟩ : ∃ al, al = alikeS A (bitsOf g.2) := ⟨_, rfl⟩
        rw [← hal]
        have hNn : (n : Int) < N := by have := HN.out; omega
        have hN1 : ((N : Int) == -1) = false := by rw [beq_eq_false_iff_ne]; omega
        have hNle : ¬ ((N : Int) ≤ n) := by omega
        have HDZ := Lib.hid hdz
        clear hdz hal
        go_wp2_with fail
        go_region_held3 (fun w' => w6.heap.size ≤ w'.heap.size ∧ ∀ b o, b < w6.heap.size → w'.cell? ⟨b, o, none⟩ = w6.cell? ⟨b, o, none⟩) (first | with_reducible exact ks (Below.refl _ _) | exact ks (by repeat (first | with_reducible exact Below.refl _ _ | with_reducible assumption | with_reducible refine Below.drew ?_ | with_reducible refine Below.alloc ?_ (by first | omega | (simp; done) | (simp; omega)) _ | with_reducible refine Below.setCell ?_ (by first | omega | (simp; done) | (simp; omega)) _))) (first | (go_at_call 56; refine (HD.out g.2 N _ _ _ HSET.out HCARD.out HDZ.out HPLC.out (HA.out.mono (HB3.out.trans ((HBB.out.trans ((HB6.out.trans (Below.drew (Below.refl _ _)) : Below wr.heap.size wr w6.drew).mono HBB.out.size)).mono HB3.out.size))) (HQ.out.mono (HB3.out.trans ((HBB.out.trans ((HB6.out.trans (Below.drew (Below.refl _ _)) : Below wr.heap.size wr w6.drew).mono HBB.out.size)).mono HB3.out.size))) (by rw [HQL.out]; exact HU1.out.mono HB6.out.drew)).mono ?_; rintro e w7 ⟨v7, rfl, ho7, hb7⟩; have hb7' := bdrew hb7; obtain ⟨a7, c7, rfl⟩ := own_slice ho7; clear hb7))
        obtain ⟨L7, hL7⟩ : ∃ L7, L7 = (planF A m f g.2 N).length := ⟨_, rfl⟩
        have hL12 : L7 ≤ 12 := by
          have h1 := planF_len A m f g.2 N
          have h2 := bits_len g.2
          omega
        rw [← hL7] at ho7
        rw [← hL7]
        obtain ⟨hnil, hnews⟩ := own_news ho7
        have HB7 := Lib.hid (bthen HB6.out hb7')
        have HNL := Lib.hid hnil; have HNW := Lib.hid hnews; have HL7 := Lib.hid hL7
        clear ho7 hnil hnews hb7' hL7 x0 x1 x2 y0 y1 y2 u0 nN
        go_wp2_with (at_builtin; go_loud (refine wpList_app2 rfl (.tmp 150) (.tmp 151) 26 rfl w3.heap.size 3 i0 _ 1 8 und_ints Hi.out Hz0.out Hz1.out Hz2.out rfl (by decide) _ (1 + R) _ rfl (own_below HO.out HB7.out) a7 L7 c7 (ci (seqI N L7)) rfl (by simp [ci, seqI]) HNL.out HNW.out (ci_one _) (by unfold maxLen; omega) (by omega) (Nat.le_trans HBB.out.size HB7.out.size) ?_; intro v8 w8 hown hgr hat))
        have e : (stepF A m f n (gs.take (j + 1))).2.length = R + L7 := by rw [HSN.out, List.length_append, ← HRR.out, ← HL7.out]
        refine ⟨⟨j + 1, by omega, by go_num, by rw [HFO.out]; congr 1; omega, ?_, (HBB.out.trans (HB7.out.mono HBB.out.size)).grown hgr (Nat.le_trans HBB.out.size HB7.out.size) (fun g hg => (HO.out.lt g hg).1)⟩, by simp [intOf]; omega⟩
        rw [e, ← Nat.add_assoc, seqI_add, ci_append, show n + (1 + R) = N by rw [HN.out]; omega]
        exact hown
    · obtain rfl : j = gs.length := by omega
      have hfin : gs.foldl (fun a g => max a (dep A m g.2)) 0 + 1 = dep A m s := by rw [dep_one HDD.out, ← HGS.out]
      rw [List.take_length] at hmx HO hRle ⊢
      obtain ⟨M, hM⟩ : ∃ M, M = gs.foldl (fun a g => max a (dep A m g.2)) 0 := ⟨_, rfl⟩
      rw [← hM] at hmx hfin
      rw [← hM]
      obtain ⟨R, hR⟩ : ∃ R, R = (stepF A m f n gs).2.length := ⟨_, rfl⟩
      rw [← hR] at HO hRle
      rw [← hR]
      have hpl : (planF A m (f + 1) s n).length = 1 + R := by rw [planF_succ _ _ _ _ _ HDD.out, List.length_cons, ← HGS.out, hR]; omega
      have HFIN := Lib.hid hfin; have HPLN := Lib.hid hpl
      clear hfin hM ho hb hR hpl
      go_wp2
      refine bodyPost_ret (v := .tuple #[.int .i64 (dep A m s : Nat), .slice sa (1 + R) sc, .bool true]) ?_ rfl ⟨.slice sa (1 + R) sc, rfl, ?_, HB3.out.trans (HBB.out.mono HB3.out.size)⟩
      · simp [results, Tryz.results56, go_sem, ← HFIN.out]
      · rw [HPLN.out]; exact own_base HO.out HB3.out.size
end Go.Proofs.YtoiemkifgdnhaaaGreatDoor
namespace Go.Proofs.YtoiemkifgdnhaaaGreatDoor
open Go Go.RowKit
def NoPost (w : World) (e : Ending) (w' : World) : Prop := e = .returned (.bool false) ∧ Below w.heap.size w w'
set_option maxRecDepth 100000 in
set_option maxHeartbeats 1000000 in
theorem Check_bad (w : World) (a : Value) (A : List (List Nat)) (h d lo : Int) (qa : Option Addr) (ql qc : Nat) (ha : ValRows w a A) (hp : permS A h ≠ 0) (hG : G w) :
    Calls Tryz.prog 15 #[a, .int .i64 h, .agg #[.slice qa ql qc, .int .i64 d, .int .i64 lo]] w (NoPost w) := by
  have HA := Lib.hid ha
  obtain ⟨ao, ac, rfl, ha1⟩ := ha.1.open
  have HG := Lib.hid hG
  obtain ⟨pe, hpe⟩ : ∃ pe, pe = permS A h := ⟨_, rfl⟩
  rw [← hpe] at hp
  have e0 : (pe != 0) = true := by rw [bne_iff_ne]; exact hp
  have HP := Lib.hid hpe
  clear ha hpe hG
  go_enter Tryz.func15, Tryz.ntmps15
  go_wp2
  have b0 : Below w.heap.size w (w.alloc (.cells #[.slice qa ql qc, .int .i64 d, .int .i64 lo] 29)) := below1 _ _
  have c2 : (w.alloc (.cells #[.slice qa ql qc, .int .i64 d, .int .i64 lo] 29)).cell? ⟨w.heap.size, 2, none⟩ = some (.int .i64 lo) := by simp
  have s0 : w.heap.size < (w.alloc (.cells #[.slice qa ql qc, .int .i64 d, .int .i64 lo] 29)).heap.size := by simp
  obtain ⟨W0, hW0⟩ : ∃ W0, W0 = w.alloc (.cells #[.slice qa ql qc, .int .i64 d, .int .i64 lo] 29) := ⟨_, rfl⟩
  rw [← hW0] at b0 c2 s0
  rw [← hW0]
  clear hW0
  have B0 := Lib.hid b0
  refine wp_region_held_drew (S := (fun w' => ∀ b o, b < W0.heap.size → w'.cell? ⟨b, o, none⟩ = W0.cell? ⟨b, o, none⟩)) (by kernel_rfl) ?_ (fun hHeld => ?_)
  · first | exact olds (Below.refl _ _) | exact olds ((Below.refl _ _).drew) | exact olds ‹Below W0.heap.size W0 _›
  refine wpAnyH_take (i := 0) (v := ?_) rfl (by kernel_rfl) (by kernel_rfl) (by kernel_rfl) (fun _ _ _ h => h) (Or.inl ⟨by rfl, ?_⟩) (by assumption) ?_
  rotate_left
  · intro w hSw; (try dsimp only [List.getElem_toArray, List.getElem_cons_succ, List.getElem_cons_zero] at hSw ⊢); go_simp; (try with_reducible rfl)
  (try dsimp only [List.getElem_toArray, List.getElem_cons_succ, List.getElem_cons_zero]); (try simp only [Act.put, List.setIfInBounds_toArray, List.set_cons_zero, List.set_cons_succ])
  refine wpAnyH_take (i := 1) (v := ?_) rfl (by kernel_rfl) (by kernel_rfl) (by kernel_rfl) (fun _ _ _ h => h) (Or.inl ⟨by rfl, ?_⟩) (by assumption) ?_
  rotate_left
  · intro w hSw; (try dsimp only [List.getElem_toArray, List.getElem_cons_succ, List.getElem_cons_zero] at hSw ⊢); go_simp; (try with_reducible rfl)
  (try dsimp only [List.getElem_toArray, List.getElem_cons_succ, List.getElem_cons_zero]); (try simp only [Act.put, List.setIfInBounds_toArray, List.set_cons_zero, List.set_cons_succ])
  refine wpAnyH_ready (rs := [2]) (by kernel_rfl) (by simp) ?_
  refine AllReadyH.cons rfl (fun K hK => ?_) ?_
  · go_simp; go_at_call 35; refine (permitted_call _ _ A h (HA.out.mono b0.drew)).mono ?_; rintro e w1 ⟨rfl, hb1⟩; rw [← HP.out]; have hbw1 := bdrew hb1; dsimp only
    clear hHeld
    refine hK.out _ _ ?_ (fun hHeld => ?_)
    · first | exact olds (Below.refl _ _) | exact olds ((Below.refl _ _).drew) | exact olds ‹Below W0.heap.size W0 _›
    clear hK K
    refine wpAnyH_take (i := 3) (v := ?_) rfl (by kernel_rfl) (by kernel_rfl) (by kernel_rfl) (fun _ _ _ h => h) (Or.inl ⟨by rfl, ?_⟩) (by assumption) ?_
    rotate_left
    · intro w hSw; (try dsimp only [List.getElem_toArray, List.getElem_cons_succ, List.getElem_cons_zero] at hSw ⊢); go_simp; (try with_reducible rfl)
    (try dsimp only [List.getElem_toArray, List.getElem_cons_succ, List.getElem_cons_zero]); (try simp only [Act.put, List.setIfInBounds_toArray, List.set_cons_zero, List.set_cons_succ])
    refine wpAnyH_take (i := 4) (v := ?_) rfl (by kernel_rfl) (by kernel_rfl) (by kernel_rfl) (fun _ _ _ h => h) (Or.inl ⟨by rfl, ?_⟩) (by assumption) ?_
    rotate_left
    · intro w hSw; (try dsimp only [List.getElem_toArray, List.getElem_cons_succ, List.getElem_cons_zero] at hSw ⊢); go_simp; (try with_reducible rfl)
    (try dsimp only [List.getElem_toArray, List.getElem_cons_succ, List.getElem_cons_zero]); (try simp only [Act.put, List.setIfInBounds_toArray, List.set_cons_zero, List.set_cons_succ])
    refine wpAnyH_take (i := 5) (v := undef) rfl (by kernel_rfl) (by kernel_rfl) (by kernel_rfl) (fun _ _ _ h => h) (Or.inr ⟨by rfl, rfl⟩) (by assumption) ?_
    (try dsimp only [List.getElem_toArray, List.getElem_cons_succ, List.getElem_cons_zero]); (try simp only [Act.put, List.setIfInBounds_toArray, List.set_cons_zero, List.set_cons_succ])
    refine wpAnyH_take (i := 6) (v := undef) rfl (by kernel_rfl) (by kernel_rfl) (by kernel_rfl) (fun _ _ _ h => h) (Or.inr ⟨by rfl, rfl⟩) (by assumption) ?_
    (try dsimp only [List.getElem_toArray, List.getElem_cons_succ, List.getElem_cons_zero]); (try simp only [Act.put, List.setIfInBounds_toArray, List.set_cons_zero, List.set_cons_succ])
    refine wpAnyH_take (i := 7) (v := undef) rfl (by kernel_rfl) (by kernel_rfl) (by kernel_rfl) (fun _ _ _ h => h) (Or.inr ⟨by rfl, rfl⟩) (by assumption) ?_
    (try dsimp only [List.getElem_toArray, List.getElem_cons_succ, List.getElem_cons_zero]); (try simp only [Act.put, List.setIfInBounds_toArray, List.set_cons_zero, List.set_cons_succ])
    refine wpAnyH_take (i := 8) (v := undef) rfl (by kernel_rfl) (by kernel_rfl) (by kernel_rfl) (fun _ _ _ h => h) (Or.inr ⟨by rfl, rfl⟩) (by assumption) ?_
    (try dsimp only [List.getElem_toArray, List.getElem_cons_succ, List.getElem_cons_zero]); (try simp only [Act.put, List.setIfInBounds_toArray, List.set_cons_zero, List.set_cons_succ])
    refine wpAnyH_take (i := 9) (v := undef) rfl (by kernel_rfl) (by kernel_rfl) (by kernel_rfl) (fun _ _ _ h => h) (Or.inr ⟨by rfl, rfl⟩) (by assumption) ?_
    (try dsimp only [List.getElem_toArray, List.getElem_cons_succ, List.getElem_cons_zero]); (try simp only [Act.put, List.setIfInBounds_toArray, List.set_cons_zero, List.set_cons_succ])
    refine wpAnyH_take (i := 10) (v := ?_) rfl (by kernel_rfl) (by kernel_rfl) (by kernel_rfl) (fun _ _ _ h => h) (Or.inl ⟨by rfl, ?_⟩) (by assumption) ?_
    rotate_left
    · intro w hSw; (try dsimp only [List.getElem_toArray, List.getElem_cons_succ, List.getElem_cons_zero] at hSw ⊢); go_simp; (try with_reducible rfl)
    (try dsimp only [List.getElem_toArray, List.getElem_cons_succ, List.getElem_cons_zero]); (try simp only [Act.put, List.setIfInBounds_toArray, List.set_cons_zero, List.set_cons_succ])
    refine wpAnyH_take (i := 11) (v := ?_) rfl (by kernel_rfl) (by kernel_rfl) (by kernel_rfl) (fun _ _ _ h => h) (Or.inl ⟨by rfl, ?_⟩) (by assumption) ?_
    rotate_left
    · intro w hSw; (try dsimp only [List.getElem_toArray, List.getElem_cons_succ, List.getElem_cons_zero] at hSw ⊢); go_simp; (try with_reducible rfl)
    (try dsimp only [List.getElem_toArray, List.getElem_cons_succ, List.getElem_cons_zero]); (try simp only [Act.put, List.setIfInBounds_toArray, List.set_cons_zero, List.set_cons_succ])
    refine wpAnyH_take (i := 12) (v := undef) rfl (by kernel_rfl) (by kernel_rfl) (by kernel_rfl) (fun _ _ _ h => h) (Or.inr ⟨by rfl, rfl⟩) (by assumption) ?_
    (try dsimp only [List.getElem_toArray, List.getElem_cons_succ, List.getElem_cons_zero]); (try simp only [Act.put, List.setIfInBounds_toArray, List.set_cons_zero, List.set_cons_succ])
    refine wpAnyH_take (i := 13) (v := undef) rfl (by kernel_rfl) (by kernel_rfl) (by kernel_rfl) (fun _ _ _ h => h) (Or.inr ⟨by rfl, rfl⟩) (by assumption) ?_
    (try dsimp only [List.getElem_toArray, List.getElem_cons_succ, List.getElem_cons_zero]); (try simp only [Act.put, List.setIfInBounds_toArray, List.set_cons_zero, List.set_cons_succ])
    refine wpAnyH_take (i := 14) (v := undef) rfl (by kernel_rfl) (by kernel_rfl) (by kernel_rfl) (fun _ _ _ h => h) (Or.inr ⟨by rfl, rfl⟩) (by assumption) ?_
    (try dsimp only [List.getElem_toArray, List.getElem_cons_succ, List.getElem_cons_zero]); (try simp only [Act.put, List.setIfInBounds_toArray, List.set_cons_zero, List.set_cons_succ])
    refine wpAnyH_take (i := 15) (v := undef) rfl (by kernel_rfl) (by kernel_rfl) (by kernel_rfl) (fun _ _ _ h => h) (Or.inr ⟨by rfl, rfl⟩) (by assumption) ?_
    (try dsimp only [List.getElem_toArray, List.getElem_cons_succ, List.getElem_cons_zero]); (try simp only [Act.put, List.setIfInBounds_toArray, List.set_cons_zero, List.set_cons_succ])
    refine wpAnyH_take (i := 16) (v := ?_) rfl (by kernel_rfl) (by kernel_rfl) (by kernel_rfl) (fun _ _ _ h => h) (Or.inl ⟨by rfl, ?_⟩) (by assumption) ?_
    rotate_left
    · intro w hSw; (try dsimp only [List.getElem_toArray, List.getElem_cons_succ, List.getElem_cons_zero] at hSw ⊢); go_simp; (try with_reducible rfl)
    (try dsimp only [List.getElem_toArray, List.getElem_cons_succ, List.getElem_cons_zero]); (try simp only [Act.put, List.setIfInBounds_toArray, List.set_cons_zero, List.set_cons_succ])
    refine wpAnyH_done (by kernel_rfl) ?_ _
    go_wp2
    go_ret
    exact ⟨rfl, bthen B0.out hbw1⟩
  exact AllReadyH.nil
set_option maxRecDepth 100000 in
set_option maxHeartbeats 1000000 in
theorem Check_far (w : World) (a : Value) (A : List (List Nat)) (h d lo : Int) (qa : Option Addr) (ql qc : Nat) (ha : ValRows w a A) (hp : permS A h = 0) (hl : lowerS A ≠ 0) (hG : G w) :
    Calls Tryz.prog 15 #[a, .int .i64 h, .agg #[.slice qa ql qc, .int .i64 d, .int .i64 0]] w (NoPost w) := by
  have HA := Lib.hid ha
  obtain ⟨ao, ac, rfl, ha1⟩ := ha.1.open
  have HG := Lib.hid hG
  obtain ⟨hr, h0, h6, h12, h10⟩ := perm_ok hp
  have HR := Lib.hid hr; have HP := Lib.hid hp
  obtain ⟨lw, hlw⟩ : ∃ lw, lw = lowerS A := ⟨_, rfl⟩
  rw [← hlw] at hl
  have e1 : ((0 : Int) != lw) = true := by rw [bne_iff_ne]; omega
  have HLO := Lib.hid hlw
  clear ha hp hr hlw hG
  go_enter Tryz.func15, Tryz.ntmps15
  go_wp2
  have b0 : Below w.heap.size w (w.alloc (.cells #[.slice qa ql qc, .int .i64 d, .int .i64 0] 29)) := below1 _ _
  have c2 : (w.alloc (.cells #[.slice qa ql qc, .int .i64 d, .int .i64 0] 29)).cell? ⟨w.heap.size, 2, none⟩ = some (.int .i64 0) := by simp
  have s0 : w.heap.size < (w.alloc (.cells #[.slice qa ql qc, .int .i64 d, .int .i64 0] 29)).heap.size := by simp
  obtain ⟨W0, hW0⟩ : ∃ W0, W0 = w.alloc (.cells #[.slice qa ql qc, .int .i64 d, .int .i64 0] 29) := ⟨_, rfl⟩
  rw [← hW0] at b0 c2 s0
  rw [← hW0]
  clear hW0
  have B0 := Lib.hid b0
  refine wp_region_held_drew (S := (fun w' => ∀ b o, b < W0.heap.size → w'.cell? ⟨b, o, none⟩ = W0.cell? ⟨b, o, none⟩)) (by kernel_rfl) ?_ (fun hHeld => ?_)
  · first | exact olds (Below.refl _ _) | exact olds ((Below.refl _ _).drew) | exact olds ‹Below W0.heap.size W0 _›
  refine wpAnyH_take (i := 0) (v := ?_) rfl (by kernel_rfl) (by kernel_rfl) (by kernel_rfl) (fun _ _ _ h => h) (Or.inl ⟨by rfl, ?_⟩) (by assumption) ?_
  rotate_left
  · intro w hSw; (try dsimp only [List.getElem_toArray, List.getElem_cons_succ, List.getElem_cons_zero] at hSw ⊢); go_simp; (try with_reducible rfl)
  (try dsimp only [List.getElem_toArray, List.getElem_cons_succ, List.getElem_cons_zero]); (try simp only [Act.put, List.setIfInBounds_toArray, List.set_cons_zero, List.set_cons_succ])
  refine wpAnyH_take (i := 1) (v := ?_) rfl (by kernel_rfl) (by kernel_rfl) (by kernel_rfl) (fun _ _ _ h => h) (Or.inl ⟨by rfl, ?_⟩) (by assumption) ?_
  rotate_left
  · intro w hSw; (try dsimp only [List.getElem_toArray, List.getElem_cons_succ, List.getElem_cons_zero] at hSw ⊢); go_simp; (try with_reducible rfl)
  (try dsimp only [List.getElem_toArray, List.getElem_cons_succ, List.getElem_cons_zero]); (try simp only [Act.put, List.setIfInBounds_toArray, List.set_cons_zero, List.set_cons_succ])
  refine wpAnyH_ready (rs := [2]) (by kernel_rfl) (by simp) ?_
  refine AllReadyH.cons rfl (fun K hK => ?_) ?_
  · go_simp; go_at_call 35; refine (permitted_call _ _ A h (HA.out.mono b0.drew)).mono ?_; rintro e w1 ⟨rfl, hb1⟩; rw [HP.out]; have hbw1 := bdrew hb1; dsimp only
    clear hHeld
    refine hK.out _ _ ?_ (fun hHeld => ?_)
    · first | exact olds (Below.refl _ _) | exact olds ((Below.refl _ _).drew) | exact olds ‹Below W0.heap.size W0 _›
    clear hK K
    refine wpAnyH_take (i := 3) (v := ?_) rfl (by kernel_rfl) (by kernel_rfl) (by kernel_rfl) (fun _ _ _ h => h) (Or.inl ⟨by rfl, ?_⟩) (by assumption) ?_
    rotate_left
    · intro w hSw; (try dsimp only [List.getElem_toArray, List.getElem_cons_succ, List.getElem_cons_zero] at hSw ⊢); go_simp; (try with_reducible rfl)
    (try dsimp only [List.getElem_toArray, List.getElem_cons_succ, List.getElem_cons_zero]); (try simp only [Act.put, List.setIfInBounds_toArray, List.set_cons_zero, List.set_cons_succ])
    refine wpAnyH_take (i := 4) (v := ?_) rfl (by kernel_rfl) (by kernel_rfl) (by kernel_rfl) (fun _ _ _ h => h) (Or.inl ⟨by rfl, ?_⟩) (by assumption) ?_
    rotate_left
    · intro w hSw; (try dsimp only [List.getElem_toArray, List.getElem_cons_succ, List.getElem_cons_zero] at hSw ⊢); go_simp; (try with_reducible rfl)
    (try dsimp only [List.getElem_toArray, List.getElem_cons_succ, List.getElem_cons_zero]); (try simp only [Act.put, List.setIfInBounds_toArray, List.set_cons_zero, List.set_cons_succ])
    refine wpAnyH_take (i := 5) (v := ?_) rfl (by kernel_rfl) (by kernel_rfl) (by kernel_rfl) (fun _ _ _ h => h) (Or.inl ⟨by rfl, ?_⟩) (by assumption) ?_
    rotate_left
    · intro w hSw; (try dsimp only [List.getElem_toArray, List.getElem_cons_succ, List.getElem_cons_zero] at hSw ⊢); go_simp; (try with_reducible rfl)
    (try dsimp only [List.getElem_toArray, List.getElem_cons_succ, List.getElem_cons_zero]); (try simp only [Act.put, List.setIfInBounds_toArray, List.set_cons_zero, List.set_cons_succ])
    refine wpAnyH_take (i := 6) (v := ?_) rfl (by kernel_rfl) (by kernel_rfl) (by kernel_rfl) (fun _ _ _ h => h) (Or.inl ⟨by rfl, ?_⟩) (by assumption) ?_
    rotate_left
    · intro w hSw; (try dsimp only [List.getElem_toArray, List.getElem_cons_succ, List.getElem_cons_zero] at hSw ⊢); go_simp; (try with_reducible rfl)
    (try dsimp only [List.getElem_toArray, List.getElem_cons_succ, List.getElem_cons_zero]); (try simp only [Act.put, List.setIfInBounds_toArray, List.set_cons_zero, List.set_cons_succ])
    refine wpAnyH_take (i := 7) (v := ?_) rfl (by kernel_rfl) (by kernel_rfl) (by kernel_rfl) (fun _ _ _ h => h) (Or.inl ⟨by rfl, ?_⟩) (by assumption) ?_
    rotate_left
    · intro w hSw; (try dsimp only [List.getElem_toArray, List.getElem_cons_succ, List.getElem_cons_zero] at hSw ⊢); go_simp; (try with_reducible rfl)
    (try dsimp only [List.getElem_toArray, List.getElem_cons_succ, List.getElem_cons_zero]); (try simp only [Act.put, List.setIfInBounds_toArray, List.set_cons_zero, List.set_cons_succ])
    refine wpAnyH_ready (rs := [8]) (by kernel_rfl) (by simp) ?_
    refine AllReadyH.cons rfl (fun K hK => ?_) ?_
    · go_simp; go_at_call 38; refine (lower_call w1 _ A (HA.out.mono (bthen b0 hbw1)) (HG.out.mono (bthen b0 hbw1)) (by omega) HR.out).mono ?_; rintro e w2 ⟨rfl, hb2⟩; rw [← HLO.out]; have hbw2 := bthen hbw1 hb2; dsimp only
      clear hHeld
      refine hK.out _ _ ?_ (fun hHeld => ?_)
      · first | exact olds (Below.refl _ _) | exact olds ((Below.refl _ _).drew) | exact olds ‹Below W0.heap.size W0 _›
      clear hK K
      refine wpAnyH_take (i := 9) (v := ?_) rfl (by kernel_rfl) (by kernel_rfl) (by kernel_rfl) (fun _ _ _ h => h) (Or.inl ⟨by rfl, ?_⟩) (by assumption) ?_
      rotate_left
      · intro w hSw; (try dsimp only [List.getElem_toArray, List.getElem_cons_succ, List.getElem_cons_zero] at hSw ⊢); go_simp; (try with_reducible rfl)
      (try dsimp only [List.getElem_toArray, List.getElem_cons_succ, List.getElem_cons_zero]); (try simp only [Act.put, List.setIfInBounds_toArray, List.set_cons_zero, List.set_cons_succ])
      refine wpAnyH_take (i := 10) (v := ?_) rfl (by kernel_rfl) (by kernel_rfl) (by kernel_rfl) (fun _ _ _ h => h) (Or.inl ⟨by rfl, ?_⟩) (by assumption) ?_
      rotate_left
      · intro w hSw; (try dsimp only [List.getElem_toArray, List.getElem_cons_succ, List.getElem_cons_zero] at hSw ⊢); go_simp; (try with_reducible rfl)
      (try dsimp only [List.getElem_toArray, List.getElem_cons_succ, List.getElem_cons_zero]); (try simp only [Act.put, List.setIfInBounds_toArray, List.set_cons_zero, List.set_cons_succ])
      refine wpAnyH_take (i := 11) (v := ?_) rfl (by kernel_rfl) (by kernel_rfl) (by kernel_rfl) (fun _ _ _ h => h) (Or.inl ⟨by rfl, ?_⟩) (by assumption) ?_
      rotate_left
      · intro w hSw; (try dsimp only [List.getElem_toArray, List.getElem_cons_succ, List.getElem_cons_zero] at hSw ⊢); go_simp; (try with_reducible rfl)
      (try dsimp only [List.getElem_toArray, List.getElem_cons_succ, List.getElem_cons_zero]); (try simp only [Act.put, List.setIfInBounds_toArray, List.set_cons_zero, List.set_cons_succ])
      refine wpAnyH_take (i := 12) (v := undef) rfl (by kernel_rfl) (by kernel_rfl) (by kernel_rfl) (fun _ _ _ h => h) (Or.inr ⟨by rfl, rfl⟩) (by assumption) ?_
      (try dsimp only [List.getElem_toArray, List.getElem_cons_succ, List.getElem_cons_zero]); (try simp only [Act.put, List.setIfInBounds_toArray, List.set_cons_zero, List.set_cons_succ])
      refine wpAnyH_take (i := 13) (v := undef) rfl (by kernel_rfl) (by kernel_rfl) (by kernel_rfl) (fun _ _ _ h => h) (Or.inr ⟨by rfl, rfl⟩) (by assumption) ?_
      (try dsimp only [List.getElem_toArray, List.getElem_cons_succ, List.getElem_cons_zero]); (try simp only [Act.put, List.setIfInBounds_toArray, List.set_cons_zero, List.set_cons_succ])
      refine wpAnyH_take (i := 14) (v := undef) rfl (by kernel_rfl) (by kernel_rfl) (by kernel_rfl) (fun _ _ _ h => h) (Or.inr ⟨by rfl, rfl⟩) (by assumption) ?_
      (try dsimp only [List.getElem_toArray, List.getElem_cons_succ, List.getElem_cons_zero]); (try simp only [Act.put, List.setIfInBounds_toArray, List.set_cons_zero, List.set_cons_succ])
      refine wpAnyH_take (i := 15) (v := undef) rfl (by kernel_rfl) (by kernel_rfl) (by kernel_rfl) (fun _ _ _ h => h) (Or.inr ⟨by rfl, rfl⟩) (by assumption) ?_
      (try dsimp only [List.getElem_toArray, List.getElem_cons_succ, List.getElem_cons_zero]); (try simp only [Act.put, List.setIfInBounds_toArray, List.set_cons_zero, List.set_cons_succ])
      refine wpAnyH_take (i := 16) (v := ?_) rfl (by kernel_rfl) (by kernel_rfl) (by kernel_rfl) (fun _ _ _ h => h) (Or.inl ⟨by rfl, ?_⟩) (by assumption) ?_
      rotate_left
      · intro w hSw; (try dsimp only [List.getElem_toArray, List.getElem_cons_succ, List.getElem_cons_zero] at hSw ⊢); go_simp; (try with_reducible rfl)
      (try dsimp only [List.getElem_toArray, List.getElem_cons_succ, List.getElem_cons_zero]); (try simp only [Act.put, List.setIfInBounds_toArray, List.set_cons_zero, List.set_cons_succ])
      refine wpAnyH_done (by kernel_rfl) ?_ _
      go_wp2
      go_ret
      exact ⟨rfl, bthen B0.out hbw2⟩
    exact AllReadyH.nil
  exact AllReadyH.nil
set_option maxRecDepth 100000 in
set_option maxHeartbeats 1000000 in
theorem CheckR_bad (w : World) (a : Value) (A : List (List Nat)) (h d lo : Int) (qa : Option Addr) (ql qc : Nat) (ha : ValRows w a A) (hp : permS A h ≠ 0) :
    Calls Tryz.prog 23 #[a, .int .i64 h, .agg #[.slice qa ql qc, .int .i64 d, .int .i64 lo]] w (NoPost w) := by
  have HA := Lib.hid ha
  obtain ⟨ao, ac, rfl, ha1⟩ := ha.1.open
  obtain ⟨pe, hpe⟩ : ∃ pe, pe = permS A h := ⟨_, rfl⟩
  rw [← hpe] at hp
  have e0 : (pe != 0) = true := by rw [bne_iff_ne]; exact hp
  have HP := Lib.hid hpe
  clear ha hpe
  go_enter Tryz.func23, Tryz.ntmps23
  go_wp2
  have b0 : Below w.heap.size w (w.alloc (.cells #[.slice qa ql qc, .int .i64 d, .int .i64 lo] 29)) := below1 _ _
  have c2 : (w.alloc (.cells #[.slice qa ql qc, .int .i64 d, .int .i64 lo] 29)).cell? ⟨w.heap.size, 2, none⟩ = some (.int .i64 lo) := by simp
  have s0 : w.heap.size < (w.alloc (.cells #[.slice qa ql qc, .int .i64 d, .int .i64 lo] 29)).heap.size := by simp
  obtain ⟨W0, hW0⟩ : ∃ W0, W0 = w.alloc (.cells #[.slice qa ql qc, .int .i64 d, .int .i64 lo] 29) := ⟨_, rfl⟩
  rw [← hW0] at b0 c2 s0
  rw [← hW0]
  clear hW0
  have B0 := Lib.hid b0
  refine wp_region_held_drew (S := (fun w' => ∀ b o, b < W0.heap.size → w'.cell? ⟨b, o, none⟩ = W0.cell? ⟨b, o, none⟩)) (by kernel_rfl) ?_ (fun hHeld => ?_)
  · first | exact olds (Below.refl _ _) | exact olds ((Below.refl _ _).drew) | exact olds ‹Below W0.heap.size W0 _›
  refine wpAnyH_take (i := 0) (v := ?_) rfl (by kernel_rfl) (by kernel_rfl) (by kernel_rfl) (fun _ _ _ h => h) (Or.inl ⟨by rfl, ?_⟩) (by assumption) ?_
  rotate_left
  · intro w hSw; (try dsimp only [List.getElem_toArray, List.getElem_cons_succ, List.getElem_cons_zero] at hSw ⊢); go_simp; (try with_reducible rfl)
  (try dsimp only [List.getElem_toArray, List.getElem_cons_succ, List.getElem_cons_zero]); (try simp only [Act.put, List.setIfInBounds_toArray, List.set_cons_zero, List.set_cons_succ])
  refine wpAnyH_take (i := 1) (v := ?_) rfl (by kernel_rfl) (by kernel_rfl) (by kernel_rfl) (fun _ _ _ h => h) (Or.inl ⟨by rfl, ?_⟩) (by assumption) ?_
  rotate_left
  · intro w hSw; (try dsimp only [List.getElem_toArray, List.getElem_cons_succ, List.getElem_cons_zero] at hSw ⊢); go_simp; (try with_reducible rfl)
  (try dsimp only [List.getElem_toArray, List.getElem_cons_succ, List.getElem_cons_zero]); (try simp only [Act.put, List.setIfInBounds_toArray, List.set_cons_zero, List.set_cons_succ])
  refine wpAnyH_ready (rs := [2]) (by kernel_rfl) (by simp) ?_
  refine AllReadyH.cons rfl (fun K hK => ?_) ?_
  · go_simp; go_at_call 39; refine (permR_call _ _ A h (HA.out.mono b0.drew)).mono ?_; rintro e w1 ⟨rfl, hb1⟩; rw [← HP.out]; have hbw1 := bdrew hb1; dsimp only
    clear hHeld
    refine hK.out _ _ ?_ (fun hHeld => ?_)
    · first | exact olds (Below.refl _ _) | exact olds ((Below.refl _ _).drew) | exact olds ‹Below W0.heap.size W0 _›
    clear hK K
    refine wpAnyH_take (i := 3) (v := ?_) rfl (by kernel_rfl) (by kernel_rfl) (by kernel_rfl) (fun _ _ _ h => h) (Or.inl ⟨by rfl, ?_⟩) (by assumption) ?_
    rotate_left
    · intro w hSw; (try dsimp only [List.getElem_toArray, List.getElem_cons_succ, List.getElem_cons_zero] at hSw ⊢); go_simp; (try with_reducible rfl)
    (try dsimp only [List.getElem_toArray, List.getElem_cons_succ, List.getElem_cons_zero]); (try simp only [Act.put, List.setIfInBounds_toArray, List.set_cons_zero, List.set_cons_succ])
    refine wpAnyH_take (i := 4) (v := ?_) rfl (by kernel_rfl) (by kernel_rfl) (by kernel_rfl) (fun _ _ _ h => h) (Or.inl ⟨by rfl, ?_⟩) (by assumption) ?_
    rotate_left
    · intro w hSw; (try dsimp only [List.getElem_toArray, List.getElem_cons_succ, List.getElem_cons_zero] at hSw ⊢); go_simp; (try with_reducible rfl)
    (try dsimp only [List.getElem_toArray, List.getElem_cons_succ, List.getElem_cons_zero]); (try simp only [Act.put, List.setIfInBounds_toArray, List.set_cons_zero, List.set_cons_succ])
    refine wpAnyH_take (i := 5) (v := undef) rfl (by kernel_rfl) (by kernel_rfl) (by kernel_rfl) (fun _ _ _ h => h) (Or.inr ⟨by rfl, rfl⟩) (by assumption) ?_
    (try dsimp only [List.getElem_toArray, List.getElem_cons_succ, List.getElem_cons_zero]); (try simp only [Act.put, List.setIfInBounds_toArray, List.set_cons_zero, List.set_cons_succ])
    refine wpAnyH_take (i := 6) (v := undef) rfl (by kernel_rfl) (by kernel_rfl) (by kernel_rfl) (fun _ _ _ h => h) (Or.inr ⟨by rfl, rfl⟩) (by assumption) ?_
    (try dsimp only [List.getElem_toArray, List.getElem_cons_succ, List.getElem_cons_zero]); (try simp only [Act.put, List.setIfInBounds_toArray, List.set_cons_zero, List.set_cons_succ])
    refine wpAnyH_take (i := 7) (v := undef) rfl (by kernel_rfl) (by kernel_rfl) (by kernel_rfl) (fun _ _ _ h => h) (Or.inr ⟨by rfl, rfl⟩) (by assumption) ?_
    (try dsimp only [List.getElem_toArray, List.getElem_cons_succ, List.getElem_cons_zero]); (try simp only [Act.put, List.setIfInBounds_toArray, List.set_cons_zero, List.set_cons_succ])
    refine wpAnyH_take (i := 8) (v := undef) rfl (by kernel_rfl) (by kernel_rfl) (by kernel_rfl) (fun _ _ _ h => h) (Or.inr ⟨by rfl, rfl⟩) (by assumption) ?_
    (try dsimp only [List.getElem_toArray, List.getElem_cons_succ, List.getElem_cons_zero]); (try simp only [Act.put, List.setIfInBounds_toArray, List.set_cons_zero, List.set_cons_succ])
    refine wpAnyH_take (i := 9) (v := undef) rfl (by kernel_rfl) (by kernel_rfl) (by kernel_rfl) (fun _ _ _ h => h) (Or.inr ⟨by rfl, rfl⟩) (by assumption) ?_
    (try dsimp only [List.getElem_toArray, List.getElem_cons_succ, List.getElem_cons_zero]); (try simp only [Act.put, List.setIfInBounds_toArray, List.set_cons_zero, List.set_cons_succ])
    refine wpAnyH_take (i := 10) (v := ?_) rfl (by kernel_rfl) (by kernel_rfl) (by kernel_rfl) (fun _ _ _ h => h) (Or.inl ⟨by rfl, ?_⟩) (by assumption) ?_
    rotate_left
    · intro w hSw; (try dsimp only [List.getElem_toArray, List.getElem_cons_succ, List.getElem_cons_zero] at hSw ⊢); go_simp; (try with_reducible rfl)
    (try dsimp only [List.getElem_toArray, List.getElem_cons_succ, List.getElem_cons_zero]); (try simp only [Act.put, List.setIfInBounds_toArray, List.set_cons_zero, List.set_cons_succ])
    refine wpAnyH_take (i := 11) (v := ?_) rfl (by kernel_rfl) (by kernel_rfl) (by kernel_rfl) (fun _ _ _ h => h) (Or.inl ⟨by rfl, ?_⟩) (by assumption) ?_
    rotate_left
    · intro w hSw; (try dsimp only [List.getElem_toArray, List.getElem_cons_succ, List.getElem_cons_zero] at hSw ⊢); go_simp; (try with_reducible rfl)
    (try dsimp only [List.getElem_toArray, List.getElem_cons_succ, List.getElem_cons_zero]); (try simp only [Act.put, List.setIfInBounds_toArray, List.set_cons_zero, List.set_cons_succ])
    refine wpAnyH_take (i := 12) (v := undef) rfl (by kernel_rfl) (by kernel_rfl) (by kernel_rfl) (fun _ _ _ h => h) (Or.inr ⟨by rfl, rfl⟩) (by assumption) ?_
    (try dsimp only [List.getElem_toArray, List.getElem_cons_succ, List.getElem_cons_zero]); (try simp only [Act.put, List.setIfInBounds_toArray, List.set_cons_zero, List.set_cons_succ])
    refine wpAnyH_take (i := 13) (v := undef) rfl (by kernel_rfl) (by kernel_rfl) (by kernel_rfl) (fun _ _ _ h => h) (Or.inr ⟨by rfl, rfl⟩) (by assumption) ?_
    (try dsimp only [List.getElem_toArray, List.getElem_cons_succ, List.getElem_cons_zero]); (try simp only [Act.put, List.setIfInBounds_toArray, List.set_cons_zero, List.set_cons_succ])
    refine wpAnyH_take (i := 14) (v := undef) rfl (by kernel_rfl) (by kernel_rfl) (by kernel_rfl) (fun _ _ _ h => h) (Or.inr ⟨by rfl, rfl⟩) (by assumption) ?_
    (try dsimp only [List.getElem_toArray, List.getElem_cons_succ, List.getElem_cons_zero]); (try simp only [Act.put, List.setIfInBounds_toArray, List.set_cons_zero, List.set_cons_succ])
    refine wpAnyH_take (i := 15) (v := undef) rfl (by kernel_rfl) (by kernel_rfl) (by kernel_rfl) (fun _ _ _ h => h) (Or.inr ⟨by rfl, rfl⟩) (by assumption) ?_
    (try dsimp only [List.getElem_toArray, List.getElem_cons_succ, List.getElem_cons_zero]); (try simp only [Act.put, List.setIfInBounds_toArray, List.set_cons_zero, List.set_cons_succ])
    refine wpAnyH_take (i := 16) (v := ?_) rfl (by kernel_rfl) (by kernel_rfl) (by kernel_rfl) (fun _ _ _ h => h) (Or.inl ⟨by rfl, ?_⟩) (by assumption) ?_
    rotate_left
    · intro w hSw; (try dsimp only [List.getElem_toArray, List.getElem_cons_succ, List.getElem_cons_zero] at hSw ⊢); go_simp; (try with_reducible rfl)
    (try dsimp only [List.getElem_toArray, List.getElem_cons_succ, List.getElem_cons_zero]); (try simp only [Act.put, List.setIfInBounds_toArray, List.set_cons_zero, List.set_cons_succ])
    refine wpAnyH_done (by kernel_rfl) ?_ _
    go_wp2
    go_ret
    exact ⟨rfl, bthen B0.out hbw1⟩
  exact AllReadyH.nil
set_option maxRecDepth 100000 in
set_option maxHeartbeats 1000000 in
theorem CheckR_far (w : World) (a : Value) (A : List (List Nat)) (h d lo : Int) (qa : Option Addr) (ql qc : Nat) (ha : ValRows w a A) (hp : permS A h = 0) (hl : lowerS A ≠ 0) :
    Calls Tryz.prog 23 #[a, .int .i64 h, .agg #[.slice qa ql qc, .int .i64 d, .int .i64 0]] w (NoPost w) := by
  have HA := Lib.hid ha
  obtain ⟨ao, ac, rfl, ha1⟩ := ha.1.open
  obtain ⟨hr, h0, h6, h12, h10⟩ := perm_ok hp
  have HR := Lib.hid hr; have HP := Lib.hid hp
  obtain ⟨lw, hlw⟩ : ∃ lw, lw = lowerS A := ⟨_, rfl⟩
  rw [← hlw] at hl
  have e1 : ((0 : Int) != lw) = true := by rw [bne_iff_ne]; omega
  have HLO := Lib.hid hlw
  clear ha hp hr hlw
  go_enter Tryz.func23, Tryz.ntmps23
  go_wp2
  have b0 : Below w.heap.size w (w.alloc (.cells #[.slice qa ql qc, .int .i64 d, .int .i64 0] 29)) := below1 _ _
  have c2 : (w.alloc (.cells #[.slice qa ql qc, .int .i64 d, .int .i64 0] 29)).cell? ⟨w.heap.size, 2, none⟩ = some (.int .i64 0) := by simp
  have s0 : w.heap.size < (w.alloc (.cells #[.slice qa ql qc, .int .i64 d, .int .i64 0] 29)).heap.size := by simp
  obtain ⟨W0, hW0⟩ : ∃ W0, W0 = w.alloc (.cells #[.slice qa ql qc, .int .i64 d, .int .i64 0] 29) := ⟨_, rfl⟩
  rw [← hW0] at b0 c2 s0
  rw [← hW0]
  clear hW0
  have B0 := Lib.hid b0
  refine wp_region_held_drew (S := (fun w' => ∀ b o, b < W0.heap.size → w'.cell? ⟨b, o, none⟩ = W0.cell? ⟨b, o, none⟩)) (by kernel_rfl) ?_ (fun hHeld => ?_)
  · first | exact olds (Below.refl _ _) | exact olds ((Below.refl _ _).drew) | exact olds ‹Below W0.heap.size W0 _›
  refine wpAnyH_take (i := 0) (v := ?_) rfl (by kernel_rfl) (by kernel_rfl) (by kernel_rfl) (fun _ _ _ h => h) (Or.inl ⟨by rfl, ?_⟩) (by assumption) ?_
  rotate_left
  · intro w hSw; (try dsimp only [List.getElem_toArray, List.getElem_cons_succ, List.getElem_cons_zero] at hSw ⊢); go_simp; (try with_reducible rfl)
  (try dsimp only [List.getElem_toArray, List.getElem_cons_succ, List.getElem_cons_zero]); (try simp only [Act.put, List.setIfInBounds_toArray, List.set_cons_zero, List.set_cons_succ])
  refine wpAnyH_take (i := 1) (v := ?_) rfl (by kernel_rfl) (by kernel_rfl) (by kernel_rfl) (fun _ _ _ h => h) (Or.inl ⟨by rfl, ?_⟩) (by assumption) ?_
  rotate_left
  · intro w hSw; (try dsimp only [List.getElem_toArray, List.getElem_cons_succ, List.getElem_cons_zero] at hSw ⊢); go_simp; (try with_reducible rfl)
  (try dsimp only [List.getElem_toArray, List.getElem_cons_succ, List.getElem_cons_zero]); (try simp only [Act.put, List.setIfInBounds_toArray, List.set_cons_zero, List.set_cons_succ])
  refine wpAnyH_ready (rs := [2]) (by kernel_rfl) (by simp) ?_
  refine AllReadyH.cons rfl (fun K hK => ?_) ?_
  · go_simp; go_at_call 39; refine (permR_call _ _ A h (HA.out.mono b0.drew)).mono ?_; rintro e w1 ⟨rfl, hb1⟩; rw [HP.out]; have hbw1 := bdrew hb1; dsimp only
    clear hHeld
    refine hK.out _ _ ?_ (fun hHeld => ?_)
    · first | exact olds (Below.refl _ _) | exact olds ((Below.refl _ _).drew) | exact olds ‹Below W0.heap.size W0 _›
    clear hK K
    refine wpAnyH_take (i := 3) (v := ?_) rfl (by kernel_rfl) (by kernel_rfl) (by kernel_rfl) (fun _ _ _ h => h) (Or.inl ⟨by rfl, ?_⟩) (by assumption) ?_
    rotate_left
    · intro w hSw; (try dsimp only [List.getElem_toArray, List.getElem_cons_succ, List.getElem_cons_zero] at hSw ⊢); go_simp; (try with_reducible rfl)
    (try dsimp only [List.getElem_toArray, List.getElem_cons_succ, List.getElem_cons_zero]); (try simp only [Act.put, List.setIfInBounds_toArray, List.set_cons_zero, List.set_cons_succ])
    refine wpAnyH_take (i := 4) (v := ?_) rfl (by kernel_rfl) (by kernel_rfl) (by kernel_rfl) (fun _ _ _ h => h) (Or.inl ⟨by rfl, ?_⟩) (by assumption) ?_
    rotate_left
    · intro w hSw; (try dsimp only [List.getElem_toArray, List.getElem_cons_succ, List.getElem_cons_zero] at hSw ⊢); go_simp; (try with_reducible rfl)
    (try dsimp only [List.getElem_toArray, List.getElem_cons_succ, List.getElem_cons_zero]); (try simp only [Act.put, List.setIfInBounds_toArray, List.set_cons_zero, List.set_cons_succ])
    refine wpAnyH_take (i := 5) (v := ?_) rfl (by kernel_rfl) (by kernel_rfl) (by kernel_rfl) (fun _ _ _ h => h) (Or.inl ⟨by rfl, ?_⟩) (by assumption) ?_
    rotate_left
    · intro w hSw; (try dsimp only [List.getElem_toArray, List.getElem_cons_succ, List.getElem_cons_zero] at hSw ⊢); go_simp; (try with_reducible rfl)
    (try dsimp only [List.getElem_toArray, List.getElem_cons_succ, List.getElem_cons_zero]); (try simp only [Act.put, List.setIfInBounds_toArray, List.set_cons_zero, List.set_cons_succ])
    refine wpAnyH_take (i := 6) (v := ?_) rfl (by kernel_rfl) (by kernel_rfl) (by kernel_rfl) (fun _ _ _ h => h) (Or.inl ⟨by rfl, ?_⟩) (by assumption) ?_
    rotate_left
    · intro w hSw; (try dsimp only [List.getElem_toArray, List.getElem_cons_succ, List.getElem_cons_zero] at hSw ⊢); go_simp; (try with_reducible rfl)
    (try dsimp only [List.getElem_toArray, List.getElem_cons_succ, List.getElem_cons_zero]); (try simp only [Act.put, List.setIfInBounds_toArray, List.set_cons_zero, List.set_cons_succ])
    refine wpAnyH_take (i := 7) (v := ?_) rfl (by kernel_rfl) (by kernel_rfl) (by kernel_rfl) (fun _ _ _ h => h) (Or.inl ⟨by rfl, ?_⟩) (by assumption) ?_
    rotate_left
    · intro w hSw; (try dsimp only [List.getElem_toArray, List.getElem_cons_succ, List.getElem_cons_zero] at hSw ⊢); go_simp; (try with_reducible rfl)
    (try dsimp only [List.getElem_toArray, List.getElem_cons_succ, List.getElem_cons_zero]); (try simp only [Act.put, List.setIfInBounds_toArray, List.set_cons_zero, List.set_cons_succ])
    refine wpAnyH_ready (rs := [8]) (by kernel_rfl) (by simp) ?_
    refine AllReadyH.cons rfl (fun K hK => ?_) ?_
    · go_simp; go_at_call 42; refine (LowerR_call w1 _ A (HA.out.mono (bthen b0 hbw1)) HR.out h12 h10).mono ?_; rintro e w2 ⟨rfl, hb2⟩; rw [← HLO.out]; have hbw2 := bthen hbw1 hb2; dsimp only
      clear hHeld
      refine hK.out _ _ ?_ (fun hHeld => ?_)
      · first | exact olds (Below.refl _ _) | exact olds ((Below.refl _ _).drew) | exact olds ‹Below W0.heap.size W0 _›
      clear hK K
      refine wpAnyH_take (i := 9) (v := ?_) rfl (by kernel_rfl) (by kernel_rfl) (by kernel_rfl) (fun _ _ _ h => h) (Or.inl ⟨by rfl, ?_⟩) (by assumption) ?_
      rotate_left
      · intro w hSw; (try dsimp only [List.getElem_toArray, List.getElem_cons_succ, List.getElem_cons_zero] at hSw ⊢); go_simp; (try with_reducible rfl)
      (try dsimp only [List.getElem_toArray, List.getElem_cons_succ, List.getElem_cons_zero]); (try simp only [Act.put, List.setIfInBounds_toArray, List.set_cons_zero, List.set_cons_succ])
      refine wpAnyH_take (i := 10) (v := ?_) rfl (by kernel_rfl) (by kernel_rfl) (by kernel_rfl) (fun _ _ _ h => h) (Or.inl ⟨by rfl, ?_⟩) (by assumption) ?_
      rotate_left
      · intro w hSw; (try dsimp only [List.getElem_toArray, List.getElem_cons_succ, List.getElem_cons_zero] at hSw ⊢); go_simp; (try with_reducible rfl)
      (try dsimp only [List.getElem_toArray, List.getElem_cons_succ, List.getElem_cons_zero]); (try simp only [Act.put, List.setIfInBounds_toArray, List.set_cons_zero, List.set_cons_succ])
      refine wpAnyH_take (i := 11) (v := ?_) rfl (by kernel_rfl) (by kernel_rfl) (by kernel_rfl) (fun _ _ _ h => h) (Or.inl ⟨by rfl, ?_⟩) (by assumption) ?_
      rotate_left
      · intro w hSw; (try dsimp only [List.getElem_toArray, List.getElem_cons_succ, List.getElem_cons_zero] at hSw ⊢); go_simp; (try with_reducible rfl)
      (try dsimp only [List.getElem_toArray, List.getElem_cons_succ, List.getElem_cons_zero]); (try simp only [Act.put, List.setIfInBounds_toArray, List.set_cons_zero, List.set_cons_succ])
      refine wpAnyH_take (i := 12) (v := undef) rfl (by kernel_rfl) (by kernel_rfl) (by kernel_rfl) (fun _ _ _ h => h) (Or.inr ⟨by rfl, rfl⟩) (by assumption) ?_
      (try dsimp only [List.getElem_toArray, List.getElem_cons_succ, List.getElem_cons_zero]); (try simp only [Act.put, List.setIfInBounds_toArray, List.set_cons_zero, List.set_cons_succ])
      refine wpAnyH_take (i := 13) (v := undef) rfl (by kernel_rfl) (by kernel_rfl) (by kernel_rfl) (fun _ _ _ h => h) (Or.inr ⟨by rfl, rfl⟩) (by assumption) ?_
      (try dsimp only [List.getElem_toArray, List.getElem_cons_succ, List.getElem_cons_zero]); (try simp only [Act.put, List.setIfInBounds_toArray, List.set_cons_zero, List.set_cons_succ])
      refine wpAnyH_take (i := 14) (v := undef) rfl (by kernel_rfl) (by kernel_rfl) (by kernel_rfl) (fun _ _ _ h => h) (Or.inr ⟨by rfl, rfl⟩) (by assumption) ?_
      (try dsimp only [List.getElem_toArray, List.getElem_cons_succ, List.getElem_cons_zero]); (try simp only [Act.put, List.setIfInBounds_toArray, List.set_cons_zero, List.set_cons_succ])
      refine wpAnyH_take (i := 15) (v := undef) rfl (by kernel_rfl) (by kernel_rfl) (by kernel_rfl) (fun _ _ _ h => h) (Or.inr ⟨by rfl, rfl⟩) (by assumption) ?_
      (try dsimp only [List.getElem_toArray, List.getElem_cons_succ, List.getElem_cons_zero]); (try simp only [Act.put, List.setIfInBounds_toArray, List.set_cons_zero, List.set_cons_succ])
      refine wpAnyH_take (i := 16) (v := ?_) rfl (by kernel_rfl) (by kernel_rfl) (by kernel_rfl) (fun _ _ _ h => h) (Or.inl ⟨by rfl, ?_⟩) (by assumption) ?_
      rotate_left
      · intro w hSw; (try dsimp only [List.getElem_toArray, List.getElem_cons_succ, List.getElem_cons_zero] at hSw ⊢); go_simp; (try with_reducible rfl)
      (try dsimp only [List.getElem_toArray, List.getElem_cons_succ, List.getElem_cons_zero]); (try simp only [Act.put, List.setIfInBounds_toArray, List.set_cons_zero, List.set_cons_succ])
      refine wpAnyH_done (by kernel_rfl) ?_ _
      go_wp2
      go_ret
      exact ⟨rfl, bthen B0.out hbw2⟩
    exact AllReadyH.nil
  exact AllReadyH.nil
end Go.Proofs.YtoiemkifgdnhaaaGreatDoor
namespace Go.Proofs.YtoiemkifgdnhaaaGreatDoor
open Go Go.RowKit
theorem walkR_call (A : List (List Nat)) (m : Nat) (qs : List Ask) (dp lo : Int) (pa : Option Addr) (pc : Nat) (hok : Ok A m) (hm : m = inputsS A) (hql : qs.length ≤ 500) : ∀ (f s n : Nat) (w : World) (a v : Value), (bitsOf s).length ≤ f → s < 2 ^ A.length → dep A m s ≠ 0 → Placed A m (f + 1) s n qs →
    ValRows w a A → AskRows w (.slice pa qs.length pc) (qs.map askI) → Ints w v (pInts (bitsOf s)) →
    Calls Tryz.prog 56 #[a, .agg #[.slice pa qs.length pc, .int .i64 dp, .int .i64 lo], .int .i64 n, v] w (WalkPost (dep A m s) n (planF A m (f + 1) s n).length w) := by
  intro f
  induction f with
  | zero =>
    intro s n w a v hf hs hd hp ha hq hv
    exact walkR_step A m 0 s n qs dp lo w a v pa pc hok hm hs hd hp hql ha hq hv fun t n' w a' v' _ hlt => absurd hlt (by omega)
  | succ f ih =>
    intro s n w a v hf hs hd hp ha hq hv
    exact walkR_step A m (f + 1) s n qs dp lo w a v pa pc hok hm hs hd hp hql ha hq hv fun t n' w a' v' ht hlt hd hp ha hq hv => ih t n' w a' v' (by omega) ht hd hp ha hq hv
theorem climb_ge (m t : Nat) : ∀ f r n, n ≤ climb m t f r n
  | 0, _, n => Nat.le_refl n
  | f + 1, r, n => by
    rw [climb]
    split
    · have := climb_ge m t f (r * m) (n + 1); omega
    · exact Nat.le_refl n
theorem kinds_cover (A : List (List Nat)) : ∀ n p, p < n → ∃ k ∈ kindsS A n, sameRow A k p = true := by
  intro n
  induction n with
  | zero => intro p hp; omega
  | succ n ih =>
    intro p hp
    rw [kinds_succ]
    by_cases hpn : p < n
    · obtain ⟨k, hk, h⟩ := ih p hpn
      split
      · exact ⟨k, hk, h⟩
      · exact ⟨k, List.mem_append_left _ hk, h⟩
    · obtain rfl : p = n := by omega
      split
      · rename_i h
        obtain ⟨k, hk, h⟩ := List.any_eq_true.1 h
        exact ⟨k, hk, h⟩
      · exact ⟨p, by simp, by simp [sameRow]⟩
theorem lower_pos {A : List (List Nat)} (h12 : A.length ≤ 12) (hd : dep A (inputsS A) (fullS A) ≠ 0) : lowerS A ≠ 0 := by
  intro hl
  apply hd
  apply alike_dep
  unfold fullS
  rw [bits_full h12]
  have ht : (kindsS A A.length).length ≤ 1 := by
    apply Classical.byContradiction
    intro ht
    unfold lowerS at hl
    obtain ⟨t, e⟩ : ∃ t, (kindsS A A.length).length = t + 1 := ⟨(kindsS A A.length).length - 1, by omega⟩
    rw [e, climb, if_pos (by omega)] at hl
    have := climb_ge (mostS A (inputsS A)) (t + 1) t (1 * mostS A (inputsS A)) (0 + 1)
    omega
  unfold alikeS
  rw [List.all_eq_true]
  intro p hp
  have hpn : p < A.length := by simpa using hp
  obtain ⟨k, hk, h1⟩ := kinds_cover A A.length p hpn
  have h0 : (List.range A.length).getD 0 0 = 0 := by
    rw [List.getD_eq_getElem?_getD, List.getElem?_range (by omega)]; rfl
  obtain ⟨k', hk', h2⟩ := kinds_cover A A.length 0 (by omega)
  have hkk : k = k' := by
    match hks : kindsS A A.length, ht with
    | [], _ => rw [hks] at hk; simp at hk
    | [x], _ =>
      rw [hks] at hk hk'
      simp at hk hk'
      rw [hk, hk']
  subst hkk
  rw [h0, beq_iff_eq]
  unfold sameRow at h1 h2
  rw [beq_iff_eq] at h1 h2
  exact h1.trans h2.symm
set_option maxRecDepth 100000 in
set_option maxHeartbeats 1000000 in
theorem CheckR_ok (w : World) (a v : Value) (A : List (List Nat)) (h : Int) (ha : ValRows w a A) (hp : PlanAt w v (planI (makeS A h))) (hE : makeE A h = 0) :
    Calls Tryz.prog 23 #[a, .int .i64 h, v] w fun e w' => e = .returned (.bool true) ∧ Below w.heap.size w w' := by
  have HA := Lib.hid ha
  obtain ⟨ao, ac, rfl, ha1⟩ := ha.1.open
  obtain ⟨pv, rfl, hq⟩ := hp
  obtain ⟨pa, pc, rfl, hq1⟩ := hq.1.open
  have hp0 : permS A h = 0 := by
    unfold makeE at hE
    split at hE
    · exact hE
    · rename_i h1; exact Classical.not_not.1 h1
  obtain ⟨hr, h0, h6, h12, h10⟩ := perm_ok hp0
  rcases make_cases hp0 with ⟨_, e1, e2, e3, e4⟩ | ⟨e1, _⟩
  case inr => omega
  obtain ⟨lo, hlo⟩ : ∃ lo, lo = lowerS A := ⟨_, rfl⟩
  obtain ⟨dp, hdp⟩ : ∃ dp, dp = dep A (inputsS A) (fullS A) := ⟨_, rfl⟩
  obtain ⟨qs, hqs⟩ : ∃ qs, qs = planF A (inputsS A) 13 (fullS A) 0 := ⟨_, rfl⟩
  have hq12 : qs.length ≤ 12 := by rw [hqs, ← e4]; exact make_ok.1
  show Calls _ _ #[_, _, .agg #[.slice pa (planI (makeS A h)).asks.length pc, .int .i64 ((makeS A h).depth : Nat), .int .i64 ((makeS A h).lower : Nat)]] _ _
  have hpl : (planI (makeS A h)).asks = qs.map askI := by unfold planI; rw [e4, hqs]
  rw [hpl] at hq hq1 ⊢
  rw [List.length_map] at hq hq1 ⊢
  rw [e1, e3, ← hlo, ← hdp]
  rw [e3, ← hdp] at e2
  have HQ := Lib.hid hq; have HR := Lib.hid hr; have HQS := Lib.hid hqs; have HLO := Lib.hid hlo; have HDP := Lib.hid hdp; have HP0 := Lib.hid hp0
  clear ha hq hE hp0 e1 e3 e4 hlo hdp hqs hpl hr
  have hl0 : ((lo : Int) != lo) = false := by simp
  have hd0 : decide (h < (dp : Int)) = false := by simp; omega
  go_enter Tryz.func23, Tryz.ntmps23
  go_wp2
  obtain ⟨W0, hW0⟩ : ∃ W0, W0 = w.alloc (.cells #[.slice pa qs.length pc, .int .i64 dp, .int .i64 lo] 29) := ⟨_, rfl⟩
  have b0 : Below w.heap.size w W0 := by rw [hW0]; exact below1 _ _
  have hT := Tri.new w (.slice pa qs.length pc) (.int .i64 dp) (.int .i64 lo) 29
  rw [← hW0] at hT
  rw [← hW0]
  obtain ⟨c0, c1, c2, _, s0⟩ := hT
  clear hW0
  have B0 := Lib.hid b0
  go_region_held3 (fun w' => ∀ b o, b < W0.heap.size → w'.cell? ⟨b, o, none⟩ = W0.cell? ⟨b, o, none⟩) (first | exact olds (Below.refl _ _) | exact olds ((Below.refl _ _).drew) | exact olds ‹Below W0.heap.size W0 _›)  (first | (go_at_call 39; refine (permR_call _ _ A h (HA.out.mono b0.drew)).mono ?_; rintro e w1 ⟨rfl, hb1⟩; rw [HP0.out]; have hbw1 := bdrew hb1) | (go_at_call 42; refine (LowerR_call w1 _ A (HA.out.mono (bthen b0 hbw1)) HR.out h12 h10).mono ?_; rintro e w2 ⟨rfl, hb2⟩; rw [← HLO.out]; have hbw2 := bthen hbw1 hb2))
  have k0 := (olds hbw2 _ _ s0).trans c0
  have k1 := (olds hbw2 _ _ s0).trans c1
  have k2 := (olds hbw2 _ _ s0).trans c2
  have HBF := Lib.hid (bthen B0.out hbw2)
  have s2 : w.heap.size < w2.heap.size := Nat.lt_of_lt_of_le s0 hbw2.size
  clear c0 c1 c2 s0 b0 hb1 hb2 hbw1 hbw2 hl0 hd0
  have hfb : bitsOf (fullS A) = List.range A.length := bits_full h12
  by_cases hdz : dp = 0
  · have hqz : qs = [] := by rw [HQS.out]; exact planF_zero _ _ _ _ _ (by rw [← HDP.out]; exact hdz)
    have q0 : ((qs.length : Int) == 0) = true := by rw [hqz]; rfl
    have d0 : ((dp : Int) == 0) = true := by rw [hdz]; rfl
    have hz := dep_zero (ok_of HR.out h12 h10) (full_val h12).2 (by rw [← HDP.out]; exact hdz)
    rw [hfb] at hz
    have HZ := Lib.hid hz
    clear hqz hdz hz hfb
    go_wp2_with fail
    refine (All_call _ _ (by omega)).mono ?_
    rintro e w3 ⟨v3, rfl, ho3, hb3⟩
    have hi3 := own_ints ho3 (by rw [upTo_len]; omega) (by rw [upTo_p]; exact pInts_ok (n := A.length) (fun p hp => by simpa using hp) (by omega))
    rw [upTo_p] at hi3
    have k1 := (olds hb3 _ _ s2).trans k1
    have s3 := Nat.lt_of_lt_of_le s2 hb3.size
    have HI3 := Lib.hid hi3; have HB3 := Lib.hid (bthen HBF.out hb3)
    clear ho3 hb3 hi3
    go_wp2_with fail
    refine (AlikeR_call _ _ _ A (List.range A.length) (HA.out.mono HB3.out) HI3.out (fun p hp => by simpa using hp)).mono ?_
    rintro e w4 ⟨rfl, hb4⟩
    rw [HZ.out]
    have k1 := (olds hb4 _ _ s3).trans k1
    have s4 := Nat.lt_of_lt_of_le s3 hb4.size
    go_wp2
    go_ret
    exact ⟨rfl, bthen HB3.out hb4⟩
  · have hqz : qs.length ≠ 0 := by
      rw [HQS.out, planF_succ _ _ _ _ _ (by rw [← HDP.out]; exact hdz)]; simp
    have q0 : ((qs.length : Int) == 0) = false := by rw [beq_eq_false_iff_ne]; omega
    have d0 : ((dp : Int) != dp) = false := by simp
    have d1 : ((qs.length : Int) != qs.length) = false := by simp
    have hdd : dep A (inputsS A) (fullS A) ≠ 0 := by rw [← HDP.out]; exact hdz
    have hpc : Placed A (inputsS A) (12 + 1) (fullS A) 0 qs := ⟨[], [], by rw [HQS.out, List.nil_append, List.append_nil], rfl⟩
    have hwk := fun (w : World) (a v : Value) (h1 : ValRows w a A) (h2 : AskRows w (.slice pa qs.length pc) (qs.map askI)) (h3 : Ints w v (pInts (List.range A.length))) => walkR_call A (inputsS A) qs dp lo pa pc (ok_of HR.out h12 h10) rfl (by omega) 12 (fullS A) 0 w a v (bits_len _) (full_val h12).2 hdd hpc h1 h2 (by rw [hfb]; exact h3)
    rw [← HDP.out, ← HQS.out] at hwk
    have HWK := Lib.hid hwk
    clear hdd hpc hwk hdz hfb
    go_wp2_with fail
    go_region_held3 (fun w' => w2.heap.size ≤ w'.heap.size ∧ ∀ b o, b < w2.heap.size → w'.cell? ⟨b, o, none⟩ = w2.cell? ⟨b, o, none⟩) (first | with_reducible exact ks (Below.refl _ _) | exact ks (by repeat (first | with_reducible exact Below.refl _ _ | with_reducible assumption | with_reducible refine Below.drew ?_ | with_reducible refine Below.alloc ?_ (by first | omega | (simp; done) | (simp; omega)) _ | with_reducible refine Below.setCell ?_ (by first | omega | (simp; done) | (simp; omega)) _))) (first | (go_at_call 28; refine (All_call _ _ (by omega)).mono ?_; rintro e w3 ⟨v3, rfl, ho3, hb3⟩; have hb3' := bdrew hb3; have hi3 := own_ints ho3 (by rw [upTo_len]; omega) (by rw [upTo_p]; exact pInts_ok (n := A.length) (fun p hp => by simpa using hp) (by omega)); rw [upTo_p] at hi3; have HI3 := Lib.hid hi3; clear hi3 ho3 hb3) | (go_at_call 56; refine (HWK.out _ _ _ (HA.out.mono (bthen HBF.out hb3')) (HQ.out.mono (bthen HBF.out hb3')) HI3.out).mono ?_; rintro e w4 ⟨v4, rfl, ho4, hb4⟩; have hb4' := bthen hb3' hb4; obtain ⟨va_, vc, rfl⟩ := own_slice ho4; have hi4 := own_ints ho4 (by rw [seqI_len]; omega) (fun x hx => by (simp only [seqI, List.mem_map, List.mem_range] at hx; obtain ⟨t, ht, rfl⟩ := hx; omega)); have HI4 := Lib.hid hi4; clear ho4 hi4 hb4))
    have k0 := (olds hb4' _ _ s2).trans k0
    have k1 := (olds hb4' _ _ s2).trans k1
    have s4 := Nat.lt_of_lt_of_le s2 hb4'.size
    have HB4 := Lib.hid (bthen HBF.out hb4')
    clear hb3' hb4'
    go_wp2
    go_loopw [11, 12] (fun i _ wr => ∃ k : Nat, k ≤ qs.length ∧ i = .int .i64 k ∧ Below w4.heap.size w4 wr) (fun i _ _ => qs.length - (intOf i).toNat)
    case atStart => exact ⟨0, by omega, rfl, Below.refl _ _⟩
    case round =>
      obtain ⟨k, hk, rfl, hb⟩ := hrel
      have HBB := Lib.hid hb
      by_cases hlt : k < qs.length
      · have q1 : (k : Int) < qs.length := by omega
        have q2 : 0 ≤ (k : Int) := by omega
        clear hb
        go_wp2_with fail
        go_loopw [12] (fun i wz => ∃ j : Nat, j ≤ k ∧ i = .int .i64 j ∧ Below w4.heap.size w4 wz) (fun i _ => k - (intOf i).toNat)
        case atStart => exact ⟨0, by omega, rfl, HBB.out⟩
        case round =>
          obtain ⟨j, hj, rfl, hbz⟩ := hrel
          have HBZ := Lib.hid hbz
          by_cases hlj : j < k
          · have q3 : (j : Int) < k := by omega
            have q4 : 0 ≤ (j : Int) := by omega
            have q5 : (j : Int) < qs.length := by omega
            have hsl : (seqI 0 qs.length).length = qs.length := seqI_len _ _
            obtain ⟨b1, o1, rfl, g1, c1⟩ := (HI4.out.mono hbz).1.at (show k < (seqI 0 qs.length).length by rw [hsl]; exact hlt)
            obtain ⟨b2, o2, e2, g2, c2⟩ := (HI4.out.mono hbz).1.at (show j < (seqI 0 qs.length).length by rw [hsl]; omega)
            simp only [Option.some.injEq, Addr.mk.injEq, and_true] at e2
            obtain ⟨rfl, rfl⟩ := e2
            have e1 : (seqI 0 qs.length).getD k 0 = (k : Int) := by simp [seqI, hlt]
            have e2 : (seqI 0 qs.length).getD j 0 = (j : Int) := by simp [seqI, show j < qs.length by omega]
            rw [e1] at c1
            rw [e2] at c2
            simp only [Nat.mul_one] at c1 c2
            have hne : ((j : Int) == k) = false := by rw [beq_eq_false_iff_ne]; omega
            clear hbz e1 e2 hsl
            go_wp2
            go_quiet (fail)
            go_wp2
            exact ⟨⟨j + 1, by omega, by go_num, below_drewN' HBZ.out _⟩, by simp [intOf]; omega⟩
          · have hjk : j = k := by omega
            subst hjk
            clear hbz
            go_wp2
            exact ⟨⟨j + 1, by omega, by go_num, HBZ.out⟩, by simp [intOf]; omega⟩
      · have hkq : k = qs.length := by omega
        subst hkq
        clear hb
        go_wp2
        go_ret
        exact ⟨rfl, bthen HB4.out HBB.out⟩
def BoolPost (b : Bool) (w : World) (e : Ending) (w' : World) : Prop := e = .returned (.bool b) ∧ Below w.heap.size w w'
theorem Check_any (w : World) (a v : Value) (A : List (List Nat)) (h : Int) (ha : ValRows w a A) (hp : PlanAt w v (planI (makeS A h))) (hG : G w) (hn : A.length ≤ 500) : Calls Tryz.prog 15 #[a, .int .i64 h, v] w (BoolPost (decide (makeE A h = 0)) w) := by
  by_cases hE : makeE A h = 0
  · rw [decide_eq_true hE]; exact Check_call w a v A h ha hp hG hn hE
  · rw [decide_eq_false hE]
    obtain ⟨pv, rfl, hq⟩ := hp
    obtain ⟨pa, pc, rfl, _⟩ := hq.1.open
    by_cases hp0 : permS A h = 0
    · rcases make_cases hp0 with ⟨e, _⟩ | ⟨_, e, hd⟩
      · exact absurd e hE
      · have hl : (planI (makeS A h)).lower = 0 := by rw [e]; rfl
        rw [hl]
        exact Check_far w a A h _ 0 pa _ pc ha hp0 (lower_pos (perm_ok hp0).2.2.2.1 hd) hG
    · exact Check_bad w a A h _ _ pa _ pc ha hp0 hG
theorem CheckR_any (w : World) (a v : Value) (A : List (List Nat)) (h : Int) (ha : ValRows w a A) (hp : PlanAt w v (planI (makeS A h))) : Calls Tryz.prog 23 #[a, .int .i64 h, v] w (BoolPost (decide (makeE A h = 0)) w) := by
  by_cases hE : makeE A h = 0
  · rw [decide_eq_true hE]; exact CheckR_ok w a v A h ha hp hE
  · rw [decide_eq_false hE]
    obtain ⟨pv, rfl, hq⟩ := hp
    obtain ⟨pa, pc, rfl, _⟩ := hq.1.open
    by_cases hp0 : permS A h = 0
    · rcases make_cases hp0 with ⟨e, _⟩ | ⟨_, e, hd⟩
      · exact absurd e hE
      · have hl : (planI (makeS A h)).lower = 0 := by rw [e]; rfl
        rw [hl]
        exact CheckR_far w a A h _ 0 pa _ pc ha hp0 (lower_pos (perm_ok hp0).2.2.2.1 hd)
    · exact CheckR_bad w a A h _ _ pa _ pc ha hp0
end Go.Proofs.YtoiemkifgdnhaaaGreatDoor
