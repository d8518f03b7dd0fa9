/- Alike, permitted, the depth, by the reference. Conditions: each value is one of the eleven.
  The depth, by the reference. Conditions: 12 right programs and 10 inputs at most.
  The lower bound, by the reference. Conditions: 12 right programs and 10 inputs at most.
  Plans by the reference: the laws that the walk needs. No conditions. -/
import Derived.Test.YtoiemkifgdnhaaaGreatDoorG2
namespace Go.Proofs.YtoiemkifgdnhaaaGreatDoor
open Go Go.RowKit
set_option maxHeartbeats 400000 in
theorem AlikeR_call (w : World) (a b : Value) (A : List (List Nat)) (l : List Nat) (ha : ValRows w a A) (hb : Ints w b (pInts l)) (hl : ∀ p ∈ l, p < A.length) : Calls Tryz.prog 30 #[a, b] w (Yes (alikeS A l) w) := by
  have HA := Lib.hid ha; have HB := Lib.hid hb; have HLT := Lib.hid hl
  obtain ⟨ao, ac, rfl, ha1⟩ := ha.1.open
  obtain ⟨bo, bc, rfl, hb1⟩ := hb.1.open
  have ha2 := ha.2; have hb2 := hb.2.1
  rw [pInts_len] at *
  clear ha hb hl
  go_enter Tryz.func30, Tryz.ntmps30
  go_wp2
  go_loopw [5, 6] (fun i u wr => ∃ k : Nat, 1 ≤ k ∧ k ≤ max 1 l.length ∧ i = .int .i64 k ∧ (∀ j, j < k → j < l.length → A.getD (l.getD j 0) [] = A.getD (l.getD 0 0) []) ∧ Below w.heap.size w wr) (fun i _ _ => max 1 l.length - (intOf i).toNat)
  case atStart => exact ⟨1, by omega, by omega, rfl, fun j h1 h2 => by rw [show j = 0 by omega], Below.refl _ _⟩
  case round =>
    obtain ⟨k, hk1, hk, rfl, hsm, hbel⟩ := hrel
    have HBL := Lib.hid hbel; have HSM := Lib.hid hsm
    by_cases hlt : k < l.length
    · have h1 : (k:Int) < l.length := by omega
      have h3 : (0:Int) < l.length := by omega
      have h5 : 0 < l.length := by omega
      have h0 : 0 ≤ (k:Int) := by omega
      have va := HA.out.mono hbel
      have vb := HB.out.mono hbel
      obtain ⟨b1, o1, rfl, g1, p0⟩ := vb.1.at (show k < (pInts l).length by rw [pInts_len]; exact hlt)
      obtain ⟨b2, o2, hbo, g2, q0⟩ := vb.1.at (show 0 < (pInts l).length by rw [pInts_len]; omega)
      simp only [Option.some.injEq, Addr.mk.injEq, and_true] at hbo
      obtain ⟨rfl, rfl⟩ := hbo
      rw [pInts_getD hlt] at p0
      rw [pInts_getD (show 0 < l.length by omega)] at q0
      have hm1 : l.getD k 0 ∈ l := by rw [List.getD_eq_getElem?_getD, List.getElem?_eq_getElem hlt]; exact List.getElem_mem _
      have hp1 : l.getD k 0 < A.length := HLT.out _ hm1
      have hp2 : l.getD 0 0 < A.length := HLT.out _ (by rw [List.getD_eq_getElem?_getD, List.getElem?_eq_getElem (show 0 < l.length by omega)]; exact List.getElem_mem _)
      simp only [Nat.mul_one, Nat.zero_mul, Nat.add_zero] at p0 q0
      obtain ⟨x, hgx⟩ : ∃ x, x = l.getD k 0 := ⟨_, rfl⟩
      obtain ⟨y, hgy⟩ : ∃ y, y = l.getD 0 0 := ⟨_, rfl⟩
      rw [← hgx] at p0 hp1; rw [← hgy] at q0 hp2
      obtain ⟨b3, o3, rfl, g3, ra, rc, r0, r1⟩ := va.1.at hp1
      obtain ⟨b4, o4, hbo, g4, sa, sc, s0, s1⟩ := va.1.at hp2
      simp only [Option.some.injEq, Addr.mk.injEq, and_true] at hbo
      obtain ⟨rfl, rfl⟩ := hbo
      simp only [Nat.mul_one] at r0 s0
      have e1 : (x : Int) < A.length := by omega
      have e2 : (y : Int) < A.length := by omega
      have e3 : 0 ≤ (x : Int) := by omega
      have e4 : 0 ≤ (y : Int) := by omega
      obtain ⟨u, hu⟩ : ∃ u, u = A.getD x [] := ⟨_, rfl⟩
      obtain ⟨v, hv⟩ : ∃ v, v = A.getD y [] := ⟨_, rfl⟩
      rw [← hu] at r0 r1; rw [← hv] at s0 s1
      have HR1 := Lib.hid r1; have HS1 := Lib.hid s1
      have hal : u ≠ v → alikeS A l = false := by
        intro hne
        unfold alikeS
        rw [List.all_eq_false]
        refine ⟨l.getD k 0, hm1, ?_⟩
        rw [← hgx, ← hu, ← hgy, ← hv]
        simpa using hne
      have heq : u = v → A.getD (l.getD k 0) [] = A.getD (l.getD 0 0) [] := by
        intro h; rw [← hgx, ← hu, ← hgy, ← hv]; exact h
      have HAL := Lib.hid hal; have HEQ := Lib.hid heq
      clear va vb hbel hsm hgx hgy r1 s1 hu hv hal heq hm1
      by_cases huv : v = u
      · have e0 : (v == u) = true := by simp [huv]
        have HUV := Lib.hid huv
        clear huv
        go_wp2
        go_region_held3 (fun w' => ∀ b o, b < wr.heap.size → w'.cell? ⟨b, o, none⟩ = wr.cell? ⟨b, o, none⟩) (first | exact olds (Below.refl _ _) | exact olds ((Below.refl _ _).drew) | exact olds ‹Below wr.heap.size wr _›)  (first | (go_at_call 32; refine (same06 _ _ _ _ _ (HS1.out.mono (Below.refl _ _).drew) (HR1.out.mono (Below.refl _ _).drew)).mono ?_; rintro e w1 ⟨rfl, hbw0⟩; have hbw := bdrew hbw0; simp only [e0]))
        go_wp2
        refine ⟨⟨k + 1, by omega, by omega, by go_num, fun j h1 h2 => ?_, bthen HBL.out hbw⟩, by simp [intOf]; omega⟩
        rcases Nat.lt_succ_iff_lt_or_eq.1 h1 with h | rfl
        · exact HSM.out j h h2
        · exact HEQ.out HUV.out.symm
      · have e0 : (v == u) = false := by simpa using huv
        have hf := HAL.out (fun h => huv h.symm)
        go_wp2
        go_region_held3 (fun w' => ∀ b o, b < wr.heap.size → w'.cell? ⟨b, o, none⟩ = wr.cell? ⟨b, o, none⟩) (first | exact olds (Below.refl _ _) | exact olds ((Below.refl _ _).drew) | exact olds ‹Below wr.heap.size wr _›)  (first | (go_at_call 32; refine (same06 _ _ _ _ _ (HS1.out.mono (Below.refl _ _).drew) (HR1.out.mono (Below.refl _ _).drew)).mono ?_; rintro e w1 ⟨rfl, hbw0⟩; have hbw := bdrew hbw0; simp only [e0]))
        go_wp2
        go_ret
        exact ⟨by rw [hf]; rfl, bthen HBL.out hbw⟩
    · have h1 : ¬ (k:Int) < l.length := by omega
      clear hbel hsm
      go_wp2
      go_ret
      have hal : alikeS A l = true := by
        unfold alikeS
        rw [List.all_eq_true]
        intro p hp
        obtain ⟨j, hj, rfl⟩ := List.getElem_of_mem hp
        have := HSM.out j (by omega) hj
        rw [List.getD_eq_getElem?_getD (l := l) (i := j), List.getElem?_eq_getElem hj] at this
        simpa using this
      exact ⟨by rw [hal]; rfl, HBL.out⟩
def IntPost (n : Int) (w : World) (e : Ending) (w' : World) : Prop := e = .returned (.int .i64 n) ∧ Below w.heap.size w w'
set_option maxHeartbeats 400000 in
theorem permR_call (w : World) (a : Value) (A : List (List Nat)) (h : Int) (ha : ValRows w a A) : Calls Tryz.prog 39 #[a, .int .i64 h] w (IntPost (permS A h) w) := by
  have HA := Lib.hid ha
  obtain ⟨ao, ac, rfl, ha1⟩ := ha.1.open
  have ha2 := ha.2
  clear ha
  obtain ⟨r, hr⟩ : ∃ r, r = rightS A := ⟨_, rfl⟩
  obtain ⟨I, hI⟩ : ∃ I, I = inputsS A := ⟨_, rfl⟩
  obtain ⟨p, hp⟩ : ∃ p, p = permS A h := ⟨_, rfl⟩
  rw [← hp]
  unfold permS at hp
  rw [← hr, ← hI] at hp
  have HR := Lib.hid hr; have HI := Lib.hid hI; have HP := Lib.hid hp
  clear hr hI hp
  go_enter Tryz.func39, Tryz.ntmps39
  go_wp2_with fail
  refine (Right_call _ _ A HA.out).mono ?_
  rintro e w1 ⟨rfl, hb1⟩
  rw [← HR.out]
  by_cases hc : r = false ∨ h < 0 ∨ 6 < h
  · have hp : p = 1 := by rw [HP.out, if_pos hc]
    cases r with
    | false =>
      go_wp2_with fail
      go_ret
      exact ⟨by rw [hp]; rfl, hb1⟩
    | true =>
      by_cases h0 : h < 0
      · go_wp2_with fail
        go_ret
        exact ⟨by rw [hp]; rfl, hb1⟩
      · have h6 : h > 6 := by
          rcases hc with h | h | h
          · cases h
          · omega
          · omega
        go_wp2_with fail
        go_ret
        exact ⟨by rw [hp]; rfl, hb1⟩
  · obtain rfl : r = true := by cases r <;> simp_all
    have h0 : ¬ h < 0 := by omega
    have h6 : ¬ h > 6 := by omega
    by_cases h12 : (A.length : Int) > 12
    · have hp : p = 2 := by rw [HP.out, if_neg hc, if_pos (by omega)]
      go_wp2_with fail
      go_ret
      exact ⟨by rw [hp]; rfl, hb1⟩
    · have HVA := Lib.hid (HA.out.mono hb1)
      go_wp2_with fail
      refine (Inputs_call _ _ A HVA.out).mono ?_
      rintro e w2 ⟨rfl, rfl⟩
      rw [← HI.out]
      by_cases hi : (I : Int) > 10
      · have hp : p = 2 := by rw [HP.out, if_neg hc, if_pos (by omega)]
        go_wp2_with fail
        go_ret
        exact ⟨by rw [hp]; rfl, hb1⟩
      · have hp : p = 0 := by rw [HP.out, if_neg hc, if_neg (by omega)]
        go_wp2_with fail
        go_ret
        exact ⟨by rw [hp]; rfl, hb1⟩
end Go.Proofs.YtoiemkifgdnhaaaGreatDoor
namespace Go.Proofs.YtoiemkifgdnhaaaGreatDoor
open Go Go.RowKit
def DepthAt (A : List (List Nat)) (m t : Nat) : Prop := ∀ (w : World) (a l : Value), ValRows w a A → Ints w l (pInts (bitsOf t)) → Calls Tryz.prog 40 #[a, l] w (IntPost (dep A m t) w)
theorem split_rows {w : World} {B : Nat} {o : Value} {A : List (List Nat)} {m k s : Nat} (h : Lists w B o (gfold A k (bitsOf s)).2) (hok : Ok A m) (hs : s < 2 ^ A.length) : IntRows w o ((divS A k s).map fun g => pInts (bitsOf g.2)) := by
  have hI := gfold_inv0 (k := k) (fun l hl x hx => (hok.row l hl).2 x hx) (bitsOf s) (fun p hp => bits_lt_pow hs hp)
  have h1 := hI.len; have h2 := hI.most; have h3 := bits_len s
  have := h.rows (by omega) fun l hl => by
    obtain ⟨a, b⟩ := hI.inner l hl
    have := hok.len
    exact ⟨by omega, fun x hx => by have := b x hx; omega⟩
  rwa [divS_snd] at this
theorem aft_le (A : List (List Nat)) (m k s : Nat) : aft A m k s ≤ 14 := by
  unfold aft aftF
  split
  · omega
  · have := max_le (gs := divS A k s) (dep_le A m) 0 (by omega); omega
set_option maxRecDepth 100000 in
set_option maxHeartbeats 1000000 in
theorem afterR_call (A : List (List Nat)) (m k s : Nat) (w : World) (a l : Value) (ha : ValRows w a A) (hl : Ints w l (pInts (bitsOf s))) (hok : Ok A m) (hk : k < m) (hs : s < 2 ^ A.length)
    (hD : ∀ t, t < 2 ^ A.length → (bitsOf t).length < (bitsOf s).length → DepthAt A m t) : Calls Tryz.prog 69 #[a, l, .int .i64 k] w (IntPost (aft A m k s) w) := by
  have HA := Lib.hid ha; have HL := Lib.hid hl; have HOK := Lib.hid hok; have HS := Lib.hid hs; have HD := Lib.hid hD
  obtain ⟨ao, ac, rfl, ha1⟩ := ha.1.open
  obtain ⟨lo, lc, rfl, hl1⟩ := hl.1.open
  have ha2 := ha.2; have hl2 := hl.2.1
  rw [pInts_len] at *
  have hb12 := bits_len s
  obtain ⟨F, hF⟩ : ∃ F, F = aft A m k s := ⟨_, rfl⟩
  rw [← hF]
  have HF := Lib.hid hF
  clear ha hl hok hs hD hF
  go_enter Tryz.func69, Tryz.ntmps69
  go_wp2_with fail
  refine (Split_call _ _ _ A (bitsOf s) k m HA.out HL.out (fun l hl => (HOK.out.row l hl).1) hk (fun p hp => bits_lt_pow HS.out hp) (by omega)).mono ?_
  rintro e w1 ⟨o1, rfl, hl1, hb1⟩
  have hr := split_rows hl1 HOK.out HS.out
  obtain ⟨gs, hgs⟩ : ∃ gs, gs = divS A k s := ⟨_, rfl⟩
  rw [← hgs] at hr
  obtain ⟨oa, oc, rfl, _⟩ := hr.1.open
  have hr2 := hr.2
  rw [List.length_map] at *
  have HGS := Lib.hid hgs; have HR := Lib.hid hr; have HB1 := Lib.hid hb1; have HVA := Lib.hid (HA.out.mono hb1)
  clear hgs hr hl1 hb1
  by_cases h2 : gs.length < 2
  · have h3 : (gs.length : Int) < 2 := by omega
    have hf : F = 0 := by rw [HF.out]; unfold aft aftF; rw [if_pos (by rw [← HGS.out]; exact h2)]
    go_wp2_with fail
    go_ret
    exact ⟨by rw [hf]; rfl, HB1.out⟩
  · have h3 : ¬ ((gs.length : Int) < 2) := by omega
    have hf : F = gs.foldl (fun a g => max a (dep A m g.2)) 0 + 1 := by rw [HF.out]; unfold aft aftF; rw [if_neg (by rw [← HGS.out]; exact h2), ← HGS.out]
    have HF2 := Lib.hid hf
    clear hf
    go_wp2_with fail
    go_loopw [8, 9] (fun mo i wr => ∃ j : Nat, j ≤ gs.length ∧ i = .int .i64 j ∧ mo = .int .i64 ((gs.take j).foldl (fun a g => max a (dep A m g.2)) 0 : Nat) ∧ Below w1.heap.size w1 wr) (fun _ i _ => gs.length - (intOf i).toNat)
    case atStart => exact ⟨0, by omega, rfl, rfl, Below.refl _ _⟩
    case round =>
      obtain ⟨j, hj, rfl, rfl, hb⟩ := hrel
      have HB := Lib.hid hb
      obtain ⟨M, hM⟩ : ∃ M, M = (gs.take j).foldl (fun a g => max a (dep A m g.2)) 0 := ⟨_, rfl⟩
      have hmx : M ≤ 13 := by rw [hM]; exact max_le (gs := gs.take j) (dep_le A m) 0 (by omega)
      rw [← hM]
      have HM := Lib.hid hM
      clear hM
      by_cases hlt : j < gs.length
      · have s1 : (j:Int) < gs.length := by omega
        have s0 : 0 ≤ (j:Int) := by omega
        obtain ⟨b1, o1, rfl, g1, ra, rc, p0, p1⟩ := (HR.out.mono hb).1.at (show j < (gs.map fun g => pInts (bitsOf g.2)).length by rw [List.length_map]; exact hlt)
        have hge : (gs.map fun g => pInts (bitsOf g.2)).getD j [] = pInts (bitsOf gs[j].2) := by rw [List.getD_eq_getElem?_getD, List.getElem?_map, List.getElem?_eq_getElem hlt]; rfl
        rw [hge] at p0 p1
        obtain ⟨g, hg⟩ : ∃ g, g = gs[j] := ⟨_, rfl⟩
        rw [← hg] at p0 p1
        simp only [Nat.mul_one] at p0
        have hgm : g ∈ divS A k s := by rw [hg, ← HGS.out]; exact List.getElem_mem _
        have hcard : (bitsOf g.2).length < (bitsOf s).length := card_lt hgm (by rw [← HGS.out]; omega)
        have hset : g.2 < 2 ^ A.length := set_lt HS.out hgm
        have hdp := dep_le A m g.2
        have hva := HVA.out.mono hb
        have hcall := HD.out g.2 hset hcard wr _ _ hva p1
        obtain ⟨dg, hdg⟩ : ∃ dg, dg = dep A m g.2 := ⟨_, rfl⟩
        rw [← hdg] at hcall hdp
        obtain ⟨bl, hbl⟩ : ∃ bl, bl = (pInts (bitsOf g.2)).length := ⟨_, rfl⟩
        rw [← hbl] at p0 hcall
        have HCALL := Lib.hid hcall; have HG := Lib.hid hg; have HDG := Lib.hid hdg
        clear hb p1 hge hgm hcard hset hva hcall hg hdg hbl
        go_wp2_with fail
        refine HCALL.out.mono ?_
        rintro e w2 ⟨rfl, hb2⟩
        go_wp2_with fail
        refine ⟨⟨j + 1, by omega, by go_num, ?_, bthen HB.out hb2⟩, by simp [intOf]; omega⟩
        rw [List.take_succ_eq_append_getElem hlt, List.foldl_append, ← HM.out, List.foldl_cons, List.foldl_nil, ← HG.out, ← HDG.out]
        congr 1; omega
      · obtain rfl : j = gs.length := by omega
        have hfm : F = M + 1 := by rw [HF2.out, HM.out, List.take_length]
        clear hb
        go_wp2_with fail
        go_ret
        refine ⟨?_, bthen HB1.out HB.out⟩
        rw [hfm]
        show Ending.returned (.int .i64 ((M : Int) + 1)) = Ending.returned (.int .i64 ((M + 1 : Nat) : Int))
        rfl
/-- What the reference has found, 100 for nothing yet. -/
def hund (n : Nat) : Nat := if n = 0 then 100 else n
theorem hund_step (l d : Nat) (hl : l ≤ 50) (hd : d ≤ 50) : hund (lst l d) = if 0 < d then min (hund l) d else hund l := by
  unfold hund lst
  (repeat' split) <;> omega
set_option maxRecDepth 100000 in
set_option maxHeartbeats 1000000 in
theorem depthR_step (A : List (List Nat)) (m s : Nat) (hok : Ok A m) (hs : s < 2 ^ A.length) (hD : ∀ t, t < 2 ^ A.length → (bitsOf t).length < (bitsOf s).length → DepthAt A m t) : DepthAt A m s := by
  intro w a l ha hl
  have HA := Lib.hid ha; have HL := Lib.hid hl; have HOK := Lib.hid hok; have HS := Lib.hid hs; have HD := Lib.hid hD
  obtain ⟨ao, ac, rfl, ha1⟩ := ha.1.open
  obtain ⟨lo, lc, rfl, hl1⟩ := hl.1.open
  have ha2 := ha.2; have hl2 := hl.2.1
  rw [pInts_len] at *
  have hb12 := bits_len s
  have hm10 := hok.m10
  have him : inputsS A = m := by
    by_cases h : A = []
    · rw [hok.inp0 h, h]; rfl
    · exact hok.inp h
  obtain ⟨D, hDD⟩ : ∃ D, D = dep A m s := ⟨_, rfl⟩
  rw [← hDD]
  have HDD := Lib.hid hDD; have HIM := Lib.hid him
  clear ha hl hok hs hD hDD him
  go_enter Tryz.func40, Tryz.ntmps40
  go_wp2_with fail
  refine (AlikeR_call _ _ _ A (bitsOf s) HA.out HL.out (fun p hp => bits_lt_pow HS.out hp)).mono ?_
  rintro e w1 ⟨rfl, hb1⟩
  by_cases hal : alikeS A (bitsOf s) = true
  · have hd : D = 0 := by rw [HDD.out]; exact alike_dep hal
    rw [hal]
    go_wp2_with fail
    go_ret
    exact ⟨by rw [hd]; rfl, hb1⟩
  · have hd0 : D ≠ 0 := by rw [HDD.out]; intro h; exact hal (dep_zero HOK.out HS.out h)
    rw [show alikeS A (bitsOf s) = false by simpa using hal]
    have HVA := Lib.hid (HA.out.mono hb1); have HVL := Lib.hid (HL.out.mono hb1); have HB1 := Lib.hid hb1
    clear hal hb1
    go_wp2_with fail
    go_loopw [6, 7, 8] (fun le i _ wr => ∃ k : Nat, k ≤ m ∧ i = .int .i64 k ∧ le = .int .i64 (hund ((List.range k).foldl (fun l k => lst l (aft A m k s)) 0) : Nat) ∧ Below w1.heap.size w1 wr) (fun _ i _ _ => m - (intOf i).toNat)
    case atStart => exact ⟨0, by omega, rfl, rfl, Below.refl _ _⟩
    case round =>
      obtain ⟨k, hk, rfl, rfl, hb⟩ := hrel
      have HB := Lib.hid hb
      have hva := HVA.out.mono hb
      have hvl := HVL.out.mono hb
      have HVA2 := Lib.hid hva; have HVL2 := Lib.hid hvl
      obtain ⟨L, hL⟩ : ∃ L, L = (List.range k).foldl (fun l k => lst l (aft A m k s)) 0 := ⟨_, rfl⟩
      rw [← hL]
      have hLl : L ≤ 14 := by
        rw [hL]
        have : ∀ n, (List.range n).foldl (fun l k => lst l (aft A m k s)) 0 ≤ 14 := by
          intro n
          induction n with
          | zero => simp
          | succ n ih => rw [List.range_succ, List.foldl_append]; exact lst_le ih (aft_le A m n s)
        exact this k
      have HLL := Lib.hid hL
      clear hb hva hvl hL
      go_wp2_with fail
      refine (Inputs_call _ _ A HVA2.out).mono ?_
      rintro e w2 ⟨rfl, rfl⟩
      rw [HIM.out]
      by_cases hlt : k < m
      · have s1 : (k : Int) < m := by omega
        go_wp2_with fail
        refine (afterR_call A m k s _ _ _ HVA2.out HVL2.out HOK.out hlt HS.out HD.out).mono ?_
        rintro e w3 ⟨rfl, hb3⟩
        have hal := aft_le A m k s
        have hst := hund_step L (aft A m k s) (by omega) (by omega)
        have hsuc : (List.range (k + 1)).foldl (fun l k => lst l (aft A m k s)) 0 = lst L (aft A m k s) := by rw [List.range_succ, List.foldl_append, ← HLL.out]; rfl
        obtain ⟨af, haf⟩ : ∃ af, af = aft A m k s := ⟨_, rfl⟩
        rw [← haf] at hal hst hsuc ⊢
        have HST := Lib.hid hst; have HSUC := Lib.hid hsuc; have HBF := Lib.hid (bthen HB.out hb3)
        obtain ⟨hu, hhu⟩ : ∃ hu, hu = hund L := ⟨_, rfl⟩
        have hu100 : hu ≤ 100 := by rw [hhu]; unfold hund; split <;> omega
        rw [← hhu]
        have HHU := Lib.hid hhu
        clear haf hst hsuc hb3 hhu
        by_cases h0 : 0 < af
        · have h1 : (af : Int) > 0 := by omega
          go_wp2_with fail
          refine ⟨⟨k + 1, by omega, by go_num, ?_, HBF.out⟩, by simp [intOf]; omega⟩
          rw [HSUC.out, HST.out, if_pos h0, ← HHU.out]
          congr 1; omega
        · have h1 : ¬ (af : Int) > 0 := by omega
          go_wp2_with fail
          refine ⟨⟨k + 1, by omega, by go_num, ?_, HBF.out⟩, by simp [intOf]; omega⟩
          rw [HSUC.out, HST.out, if_neg h0, ← HHU.out]
      · obtain rfl : k = m := by omega
        have hLD : L = D := by rw [HLL.out, HDD.out]; exact (dep_eq A k s).symm
        have hu : hund L = D := by rw [hLD]; unfold hund; rw [if_neg hd0]
        rw [hu]
        go_wp2_with fail
        go_ret
        exact ⟨rfl, bthen HB1.out HB.out⟩
theorem depthR_call (A : List (List Nat)) (m : Nat) (hok : Ok A m) : ∀ s, s < 2 ^ A.length → DepthAt A m s := by
  have key : ∀ n s, (bitsOf s).length < n → s < 2 ^ A.length → DepthAt A m s := by
    intro n
    induction n with
    | zero => intro s h; omega
    | succ n ih =>
      intro s h hs
      exact depthR_step A m s hok hs fun t ht hlt => ih t (by omega) ht
  exact fun s hs => key _ s (Nat.lt_succ_self _) hs
end Go.Proofs.YtoiemkifgdnhaaaGreatDoor
namespace Go.Proofs.YtoiemkifgdnhaaaGreatDoor
open Go Go.RowKit
set_option maxRecDepth 100000 in
set_option maxHeartbeats 1000000 in
theorem LowerR_call (w : World) (a : Value) (A : List (List Nat)) (ha : ValRows w a A) (hr : rightS A = true) (h12 : A.length ≤ 12) (h10 : inputsS A ≤ 10) : Calls Tryz.prog 42 #[a] w (IntPost (lowerS A) w) := by
  have HA := Lib.hid ha; have HR := Lib.hid hr
  obtain ⟨ao, ac, rfl, ha1⟩ := ha.1.open
  have ha2 := ha.2
  obtain ⟨i0, hi, hz0, hz1, hz2⟩ := info_parts info_int
  have Hi := Lib.hid hi; have Hz0 := Lib.hid hz0; have Hz1 := Lib.hid hz1; have Hz2 := Lib.hid hz2
  obtain ⟨I, hI⟩ : ∃ I, I = inputsS A := ⟨_, rfl⟩
  rw [← hI] at h10
  have HI := Lib.hid hI
  obtain ⟨LO, hLO⟩ : ∃ LO, LO = lowerS A := ⟨_, rfl⟩
  rw [← hLO]
  have HLO := Lib.hid hLO
  clear ha hr hi hz0 hz1 hz2 hI hLO
  go_enter Tryz.func42, Tryz.ntmps42
  go_wp2
  go_loopw [3, 4, 5, 6, 7] (fun ks i _ _ _ wr => ∃ j : Nat, j ≤ A.length ∧ i = .int .i64 j ∧ wr.ownsRow w.heap.size 3 1 ks (kindsS A j).length (ci (pInts (kindsS A j))) ∧ Below w.heap.size w wr) (fun _ i _ _ _ _ => A.length - (intOf i).toNat)
  case atStart => exact ⟨0, by omega, rfl, World.ownsRow_nil _ _ _ _, Below.refl _ _⟩
  case round =>
    obtain ⟨j, hj, rfl, ho, hbel⟩ := hrel
    have HO := Lib.hid ho; have HBL := Lib.hid hbel
    obtain ⟨ka, kc, rfl⟩ := own_slice ho
    have hkl := (kinds_lt A j)
    by_cases hlt : j < A.length
    · have q1 : (j:Int) < A.length := by omega
      have q0 : 0 ≤ (j:Int) := by omega
      have hkl1 := hkl.1
      have hkl2 := hkl.2
      have HKL := Lib.hid hkl1
      have HS := Lib.hid (kinds_succ A j)
      obtain ⟨ks, hks⟩ : ∃ ks, ks = kindsS A j := ⟨_, rfl⟩
      rw [← hks] at ho hkl1 hkl2 ⊢
      have HO : RowKit.Hid (wr.ownsRow w.heap.size 3 1 (.slice ka ks.length kc) ks.length (ci (pInts ks))) := Lib.hid ho
      have HKS := Lib.hid hks
      have hio := own_ints ho (by rw [pInts_len]; omega) (pInts_ok hkl1 (by omega))
      have HIO := Lib.hid hio
      obtain ⟨V, hV⟩ : ∃ V : World, V = wr := ⟨_, rfl⟩
      rw [← hV] at hbel
      have HV := Lib.hid hV
      have HKL1 := Lib.hid hkl1
      clear ho hbel hkl hkl1 hks hio hV
      go_wp2
      go_loopw [5, 6, 7] (fun kn i _ wr => ∃ t : Nat, t ≤ ks.length ∧ i = .int .i64 t ∧ kn = .bool ((ks.take t).any fun k => sameRow A k j) ∧ Below V.heap.size V wr) (fun _ i _ _ => ks.length - (intOf i).toNat)
      case atStart => exact ⟨0, by omega, rfl, rfl, by rw [HV.out]; exact Below.refl _ _⟩
      case round =>
        obtain ⟨t, ht, rfl, rfl, hb⟩ := hrel
        have HB := Lib.hid hb
        have hb2 := hb
        rw [HV.out] at hb2
        have HBV := Lib.hid hb2
        obtain ⟨kn, hkn⟩ : ∃ kn, kn = (ks.take t).any fun k => sameRow A k j := ⟨_, rfl⟩
        rw [← hkn]
        have HKN := Lib.hid hkn
        by_cases htl : t < ks.length
        · have s1 : (t:Int) < ks.length := by omega
          have s0 : 0 ≤ (t:Int) := by omega
          obtain ⟨b1, o1, rfl, g1, c1⟩ := (HIO.out.mono hb2).1.at (show t < (pInts ks).length by rw [pInts_len]; exact htl)
          rw [pInts_getD htl] at c1
          simp only [Nat.mul_one] at c1
          obtain ⟨x, hx⟩ : ∃ x, x = ks.getD t 0 := ⟨_, rfl⟩
          rw [← hx] at c1
          have hxl : x < j := HKL1.out x (by rw [hx, List.getD_eq_getElem?_getD, List.getElem?_eq_getElem htl]; exact List.getElem_mem htl)
          have hany : (ks.take (t + 1)).any (fun k => sameRow A k j) = (kn || sameRow A x j) := by
            have e : ks[t] = x := by rw [hx, List.getD_eq_getElem?_getD, List.getElem?_eq_getElem htl]; rfl
            rw [List.take_succ_eq_append_getElem htl, List.any_append, ← hkn, e]; simp
          have hva := (HA.out.mono (bthen HBL.out hb2)).mono (below1 wr (.cells #[.int .i64 x, .int .i64 j] 3))
          have hal := AlikeR_call _ _ _ A [x, j] hva (ints_new2 wr x j 3 (by omega) (by omega)) (by intro p hp; simp at hp; omega)
          rw [alike_two] at hal
          obtain ⟨sm, hsm⟩ : ∃ sm, sm = sameRow A x j := ⟨_, rfl⟩
          rw [← hsm] at hany hal
          have HANY := Lib.hid hany; have HAL := Lib.hid hal
          clear hb hb2 hkn hx hany hva hal hsm
          go_wp2_with fail
          refine HAL.out.mono ?_
          rintro e w1 ⟨rfl, hb1⟩
          have hbv := bstep HB.out hb1
          cases kn <;> cases sm
          all_goals
            go_wp2_with fail
            exact ⟨⟨t + 1, by omega, by go_num, by rw [HANY.out]; rfl, hbv⟩, by simp [intOf]; omega⟩
        · obtain rfl : t = ks.length := by omega
          have hany : kn = ks.any fun k => sameRow A k j := by rw [HKN.out, List.take_length]
          have hs2 : kindsS A (j + 1) = if kn = true then ks else ks ++ [j] := by rw [HS.out, ← HKS.out, ← hany]
          have HS2 := Lib.hid hs2
          have hbw := bthen HBL.out hb2
          have ho2 := own_below HO.out hb2
          have HBW := Lib.hid hbw; have HO2 := Lib.hid ho2
          clear hb hb2 hkn hany hs2 hbw ho2
          cases kn with
          | true =>
            go_wp2
            refine ⟨⟨j + 1, by omega, by go_num, ?_, HBW.out⟩, by simp [intOf]; omega⟩
            rw [HS2.out, if_pos rfl]; exact HO2.out
          | false =>
            go_wp2_with (at_builtin; refine wpList_app rfl (.tmp 38) (.tmp 40) 26 rfl w.heap.size 3 i0 (.int .i64 0) 1 8 und_ints Hi.out Hz0.out Hz1.out Hz2.out rfl (by decide) _ _ _ rfl (HO2.out.alloc _) ⟨wr.heap.size, 0, none⟩ 1 1 [.int .i64 j] rfl rfl (cell_one_new _ _ _) (by intro q hq; simp at hq; subst hq; rfl) (by unfold maxLen; omega) (by omega) (by have := HBW.out.size; simp; omega) ?_; intro v' w9 hown hgr hfr)
            refine ⟨⟨j + 1, by omega, by go_num, ?_, (HBW.out.alloc HBW.out.size _).grown hgr (by have := HBW.out.size; simp; omega) (fun g hg => (HO2.out.lt g hg).1)⟩, by simp [intOf]; omega⟩
            rw [HS2.out, if_neg (by simp), List.length_append]
            have e2 : ci (pInts (ks ++ [j])) = ci (pInts ks) ++ [.int .i64 j] := by simp [ci, pInts]
            rw [e2]; exact hown
    · obtain rfl : j = A.length := by omega
      have hklen := hkl.2
      obtain ⟨t, ht⟩ : ∃ t, t = (kindsS A A.length).length := ⟨_, rfl⟩
      rw [← ht] at hklen
      rw [← ht]
      have HT := Lib.hid ht
      clear ho hbel hkl ht
      go_wp2
      obtain ⟨V, hV⟩ : ∃ V : World, V = wr := ⟨_, rfl⟩
      rw [← hV]
      have HBV : RowKit.Hid (Below w.heap.size w V) := Lib.hid (by rw [hV]; exact HBL.out)
      have HVA : RowKit.Hid (ValRows V (.slice ao A.length ac) A) := Lib.hid (HA.out.mono HBV.out)
      clear hV
      go_loopw [8, 9] (fun mo i wr => ∃ k : Nat, k ≤ I ∧ i = .int .i64 k ∧ mo = .int .i64 (mostS A k : Nat) ∧ Below V.heap.size V wr) (fun _ i _ => I - (intOf i).toNat)
      case atStart => exact ⟨0, by omega, rfl, rfl, Below.refl _ _⟩
      case round =>
        obtain ⟨k, hk, rfl, rfl, hb⟩ := hrel
        have HB := Lib.hid hb
        have hml := most_le A k
        have HVA2 := Lib.hid (HVA.out.mono hb)
        obtain ⟨mo, hmo⟩ : ∃ mo, mo = mostS A k := ⟨_, rfl⟩
        rw [← hmo] at hml ⊢
        have HMO := Lib.hid hmo
        clear hb hmo
        go_wp2_with fail
        refine (Inputs_call _ _ A HVA2.out).mono ?_
        rintro e w2 ⟨rfl, rfl⟩
        rw [← HI.out]
        by_cases hlt : k < I
        · have s1 : (k : Int) < I := by omega
          go_wp2_with fail
          refine (All_call _ _ (by omega)).mono ?_
          rintro e w3 ⟨v3, rfl, ho3, hb3⟩
          have hi3 := own_ints ho3 (by rw [upTo_len]; omega) (by rw [upTo_p]; exact pInts_ok (fun p hp => by simpa using hp) (by omega))
          rw [upTo_p] at hi3
          rw [upTo_p] at ho3
          obtain ⟨a3, c3, rfl⟩ := own_slice ho3
          have HI3 := Lib.hid hi3; have HB3 := Lib.hid hb3
          clear ho3 hi3 hb3
          go_wp2_with fail
          refine (Split_call _ _ _ A (List.range A.length) k I (HVA2.out.mono HB3.out) HI3.out (fun l hl => by rw [HI.out]; exact (right_rows HR.out l hl).1) hlt (fun p hp => by simpa using hp) (by simp; omega)).mono ?_
          rintro e w4 ⟨o4, rfl, hl4, hb4⟩
          have hsu := most_succ A k
          rw [groups_all HR.out (by rw [← HI.out]; exact hlt), ← HMO.out] at hsu
          obtain ⟨a4, c4, rfl⟩ := hl4.slice
          obtain ⟨gl, hgl⟩ : ∃ gl, gl = (gfold A k (List.range A.length)).2.length := ⟨_, rfl⟩
          rw [← hgl] at hsu ⊢
          have HSU := Lib.hid hsu
          have HBF := Lib.hid (bthen (bthen HB.out HB3.out) hb4)
          clear hsu hl4 hb4 hgl
          go_wp2_with fail
          refine ⟨⟨k + 1, by omega, by go_num, ?_, HBF.out⟩, by simp [intOf]; omega⟩
          rw [HSU.out]; congr 1; omega
        · obtain rfl : k = I := by omega
          have hm1 := (most_ge A (inputsS A)).1
          have hM2 := fun h => most_two (A := A) HR.out h
          have hlow : climb (mostS A (inputsS A)) t t 1 0 = LO := by rw [HT.out]; exact HLO.out.symm
          have hm2' : 2 ≤ t → 2 ≤ mostS A (inputsS A) := by rw [HT.out]; exact hM2
          rw [← HI.out, ← HMO.out] at hlow hm2'
          have HLOW := Lib.hid hlow; have HM2' := Lib.hid hm2'
          have HBF := Lib.hid (bthen HBV.out HB.out)
          clear hM2 hm1 hlow hm2'
          go_wp2
          go_loopw [10, 11] (fun n7 r8 wz => ∃ n reach f : Nat, n7 = .int .i64 n ∧ r8 = .int .i64 reach ∧ climb mo t f reach n = LO ∧ t ≤ reach + f ∧ 1 ≤ reach ∧ n + 1 ≤ reach ∧ reach ≤ 250000 ∧ Below w.heap.size w wz) (fun _ r8 _ => t - (intOf r8).toNat)
          case atStart => exact ⟨0, 1, t, rfl, rfl, HLOW.out, by omega, by omega, by omega, by omega, HBF.out⟩
          case round =>
            obtain ⟨n, reach, f, rfl, rfl, hc, hf, hr1, hn1, hr2, hbz⟩ := hrel
            have HC := Lib.hid hc
            clear hc
            by_cases hlt : reach < t
            · have q1 : (reach : Int) < t := by omega
              have h2 : 2 ≤ mo := HM2'.out (by omega)
              have hMu : mo ≤ 500 := by omega
              have hp1 : reach + 1 ≤ reach * mo := by
                have := Nat.mul_le_mul_left reach h2; omega
              have hp2 : reach * mo ≤ 250000 := by
                have := Nat.mul_le_mul (show reach ≤ 500 by omega) hMu; omega
              have hmul : (reach : Int) * mo = ((reach * mo : Nat) : Int) := by rw [Int.natCast_mul]
              have hmA : 0 ≤ (reach : Int) * mo := by omega
              have hmB : (reach : Int) * mo ≤ 250000 := by omega
              have HMUL := Lib.hid hmul
              clear hmul
              go_wp2
              refine ⟨?_, ?_⟩
              · rw [HMUL.out]
                obtain ⟨f', rfl⟩ : ∃ f', f = f' + 1 := ⟨f - 1, by omega⟩
                refine ⟨n + 1, reach * mo, f', by go_num, by go_num, ?_, by omega, by omega, by omega, hp2, hbz⟩
                have := HC.out
                rw [climb, if_pos hlt] at this
                exact this
              · rw [HMUL.out]; simp [intOf]; omega
            · go_wp2
              go_ret
              refine ⟨?_, hbz⟩
              have := HC.out
              have e : n = LO := by
                rcases f with _ | f
                · rw [climb] at this; exact this
                · rw [climb, if_neg hlt] at this; exact this
              rw [← e]; rfl
end Go.Proofs.YtoiemkifgdnhaaaGreatDoor
namespace Go.Proofs.YtoiemkifgdnhaaaGreatDoor
open Go Go.RowKit
theorem Apart.join {l1 l2 : List Value} (h1 : Apart l1) (h2 : Apart l2) (h12 : ∀ (i j : Nat) (u u' : Value) (g : Nat), l1[i]? = some u → l2[j]? = some u' → u.ownBlock = some g → u'.ownBlock ≠ some g) : Apart (l1 ++ l2) := by
  have get : ∀ (i : Nat) (v : Value), (l1 ++ l2)[i]? = some v → (i < l1.length ∧ l1[i]? = some v) ∨ (l1.length ≤ i ∧ l2[i - l1.length]? = some v) := by
    intro i v hv
    by_cases hi : i < l1.length
    · rw [List.getElem?_append_left hi] at hv; exact .inl ⟨hi, hv⟩
    · rw [List.getElem?_append_right (by omega)] at hv; exact .inr ⟨by omega, hv⟩
  intro j k u u' g hjk hu hu' hg hg'
  rcases get j u hu with ⟨a1, a2⟩ | ⟨a1, a2⟩ <;> rcases get k u' hu' with ⟨b1, b2⟩ | ⟨b1, b2⟩
  · exact h1 j k u u' g hjk a2 b2 hg hg'
  · exact h12 _ _ u u' g a2 b2 hg hg'
  · exact h12 _ _ u' u g b2 a2 hg' hg
  · exact h2 _ _ u u' g (by omega) a2 b2 hg hg'
/-- Own questions that stay: their rows' blocks are as they were. -/
theorem AsksAt.join {w w1 : World} {B : Nat} {v v2 v' : Value} {qs qs2 : List Ask} {os os2 : List (Nat × Value × Value)} (h : AsksAt w B v qs os) (h2 : AsksAt w B v2 qs2 os2)
    (f1 : ∀ (i j : Nat) (u u' : Value) (g : Nat), (os.map (·.2.1))[i]? = some u → (os2.map (·.2.1))[j]? = some u' → u.ownBlock = some g → u'.ownBlock ≠ some g)
    (f2 : ∀ (i j : Nat) (u u' : Value) (g : Nat), (os.map (·.2.2))[i]? = some u → (os2.map (·.2.2))[j]? = some u' → u.ownBlock = some g → u'.ownBlock ≠ some g)
    (hg : w.grownBy w1 v.ownBlock) (hown : w1.ownsRow B 59 3 v' (qs.length + qs2.length) (os.flatMap askC ++ os2.flatMap askC)) : AsksAt w1 B v' (qs ++ qs2) (os ++ os2) := by
  refine ⟨by rw [List.length_append, List.flatMap_append]; exact hown, by rw [List.length_append, List.length_append, h.len, h2.len], ?_, by rw [List.map_append]; exact h.ap1.join h2.ap1 f1, by rw [List.map_append]; exact h.ap2.join h2.ap2 f2⟩
  intro i x a hx ha
  by_cases hi : i < qs.length
  · rw [List.getElem?_append_left (by rw [h.len]; exact hi)] at hx
    rw [List.getElem?_append_left hi] at ha
    obtain ⟨k1, ⟨ys, k2, k3⟩, k4⟩ := h.inn i x a hx ha
    exact ⟨k1, ⟨ys, k2, k3.kept hg (own_apart k3 h.own (by decide))⟩, k4.kept hg (own_apart k4 h.own (by decide))⟩
  · rw [List.getElem?_append_right (by rw [h.len]; omega)] at hx
    rw [List.getElem?_append_right (by omega)] at ha
    rw [h.len] at hx
    obtain ⟨k1, ⟨ys, k2, k3⟩, k4⟩ := h2.inn _ x a hx ha
    exact ⟨k1, ⟨ys, k2, k3.kept hg (own_apart k3 h.own (by decide))⟩, k4.kept hg (own_apart k4 h.own (by decide))⟩
/-- One question with rows of its own. -/
theorem AsksAt.one {w : World} {B : Nat} {v : Value} {o : Nat × Value × Value} {a : Ask} {zs : List ZV} (h1 : o.1 = a.1) (h2 : zs.map (·.1) = a.2.1) (h3 : w.ownsRow B 47 7 o.2.1 a.2.1.length (cvs zs)) (h4 : w.ownsRow B 3 1 o.2.2 a.2.2.length (ci a.2.2))
    (hown : w.ownsRow B 59 3 v 1 (askC o)) : AsksAt w B v [a] [o] := by
  have hz : zs.length = a.2.1.length := by rw [← h2, List.length_map]
  refine ⟨by simpa using hown, rfl, ?_, ?_, ?_⟩
  · intro i x b hx hb
    match i, hx, hb with
    | 0, hx, hb => cases hx; cases hb; exact ⟨h1, ⟨zs, h2, by rw [hz]; exact h3⟩, h4⟩
    | i + 1, hx, _ => simp at hx
  · intro j k u u' g hjk hu hu' _ _
    have e1 := (List.getElem?_eq_some_iff.1 hu).1
    have e2 := (List.getElem?_eq_some_iff.1 hu').1
    simp at e1 e2; omega
  · intro j k u u' g hjk hu hu' _ _
    have e1 := (List.getElem?_eq_some_iff.1 hu).1
    have e2 := (List.getElem?_eq_some_iff.1 hu').1
    simp at e1 e2; omega
/-- The values' rows of questions, the places' rows: each lies in the call's own blocks. -/
theorem AsksAt.lt1 {w : World} {B : Nat} {v : Value} {qs : List Ask} {os : List (Nat × Value × Value)} (h : AsksAt w B v qs os) {i : Nat} {u : Value} {g : Nat} (hu : (os.map (·.2.1))[i]? = some u) (hg : u.ownBlock = some g) : B ≤ g ∧ g < w.heap.size := by
  rw [List.getElem?_map] at hu
  cases ho : os[i]? with
  | none => rw [ho] at hu; cases hu
  | some o =>
    rw [ho] at hu; cases hu
    have hi := (List.getElem?_eq_some_iff.1 ho).1
    obtain ⟨_, ⟨ys, _, k3⟩, _⟩ := h.inn i o (qs[i]'(by rw [← h.len]; exact hi)) ho (List.getElem?_eq_getElem (by rw [← h.len]; exact hi))
    exact k3.lt g hg
theorem AsksAt.lt2 {w : World} {B : Nat} {v : Value} {qs : List Ask} {os : List (Nat × Value × Value)} (h : AsksAt w B v qs os) {i : Nat} {u : Value} {g : Nat} (hu : (os.map (·.2.2))[i]? = some u) (hg : u.ownBlock = some g) : B ≤ g ∧ g < w.heap.size := by
  rw [List.getElem?_map] at hu
  cases ho : os[i]? with
  | none => rw [ho] at hu; cases hu
  | some o =>
    rw [ho] at hu; cases hu
    have hi := (List.getElem?_eq_some_iff.1 ho).1
    obtain ⟨_, _, k4⟩ := h.inn i o (qs[i]'(by rw [← h.len]; exact hi)) ho (List.getElem?_eq_getElem (by rw [← h.len]; exact hi))
    exact k4.lt g hg
/-- Questions stay while a row of values grows that is none of theirs. -/
theorem AsksAt.keptV {w w' : World} {B n : Nat} {v va : Value} {qs : List Ask} {os : List (Nat × Value × Value)} {xs : List Value} (h : AsksAt w B v qs os) (hv : w.ownsRow B 47 7 va n xs) (hg : w.grownBy w' va.ownBlock)
    (f : ∀ (i : Nat) (u : Value) (g : Nat), (os.map (·.2.1))[i]? = some u → u.ownBlock = some g → va.ownBlock ≠ some g) : AsksAt w' B v qs os := by
  refine ⟨h.own.kept hg (own_apart h.own hv (by decide)), h.len, fun i o a ho ha => ?_, h.ap1, h.ap2⟩
  obtain ⟨k1, ⟨ys, k2, k3⟩, k4⟩ := h.inn i o a ho ha
  refine ⟨k1, ⟨ys, k2, k3.kept hg ?_⟩, k4.kept hg (own_apart k4 hv (by decide))⟩
  cases hb : o.2.1.ownBlock with
  | none => exact .inl rfl
  | some g => exact .inr fun e => f i o.2.1 g (by rw [List.getElem?_map, ho]; rfl) hb e.symm
theorem AsksAt.keptI {w w' : World} {B n : Nat} {v vn : Value} {qs : List Ask} {os : List (Nat × Value × Value)} {xs : List Value} (h : AsksAt w B v qs os) (hv : w.ownsRow B 3 1 vn n xs) (hg : w.grownBy w' vn.ownBlock)
    (f : ∀ (i : Nat) (u : Value) (g : Nat), (os.map (·.2.2))[i]? = some u → u.ownBlock = some g → vn.ownBlock ≠ some g) : AsksAt w' B v qs os := by
  refine ⟨h.own.kept hg (own_apart h.own hv (by decide)), h.len, fun i o a ho ha => ?_, h.ap1, h.ap2⟩
  obtain ⟨k1, ⟨ys, k2, k3⟩, k4⟩ := h.inn i o a ho ha
  refine ⟨k1, ⟨ys, k2, k3.kept hg (own_apart k3 hv (by decide))⟩, k4.kept hg ?_⟩
  cases hb : o.2.2.ownBlock with
  | none => exact .inl rfl
  | some g => exact .inr fun e => f i o.2.2 g (by rw [List.getElem?_map, ho]; rfl) hb e.symm
/-- All is as it was, but one block. -/
structure Kt (T : Nat) (w w' : World) : Prop where
  size : w.heap.size ≤ w'.heap.size
  blk : ∀ b, b < w.heap.size → b ≠ T → w'.heap[b]? = w.heap[b]?
theorem Kt.refl (T : Nat) (w : World) : Kt T w w := ⟨Nat.le_refl _, fun _ _ _ => rfl⟩
theorem Kt.below {T : Nat} {w w1 w2 : World} (h : Kt T w w1) (hb : Below w.heap.size w1 w2) : Kt T w w2 := ⟨Nat.le_trans h.size hb.size, fun b h1 h2 => (hb.block b h1).trans (h.blk b h1 h2)⟩
theorem Kt.set {T o : Nat} {w w1 : World} (h : Kt T w w1) (u : Value) : Kt T w (w1.setCell ⟨T, o, none⟩ u) := ⟨by simpa using h.size, fun b h1 h2 => (heap_setCell_other w1 ⟨T, o, none⟩ b u (by simpa using h2)).trans (h.blk b h1 h2)⟩
theorem own_kt {T : Nat} {w w' : World} {B : Nat} {e : TypeId} {s : Nat} {v : Value} {n : Nat} {xs : List Value} (h : w.ownsRow B e s v n xs) (hk : Kt T w w') (hT : T < B) : w'.ownsRow B e s v n xs := by
  refine ⟨h.1, ?_⟩
  rcases h.2 with h2 | ⟨g, cap, cur, h1, h2, h3, h4⟩
  · exact .inl h2
  · exact .inr ⟨g, cap, cur, h1, h2, by rw [hk.blk g (lt_of_block h3) (by omega)]; exact h3, h4⟩
theorem Lists.kt {T : Nat} {w w' : World} {B : Nat} {o : Value} {ls : List (List Int)} (h : Lists w B o ls) (hk : Kt T w w') (hT : T < B) : Lists w' B o ls := by
  obtain ⟨os, h1, h2, h3, h4⟩ := h
  exact ⟨os, own_kt h1 hk hT, h2, fun k u l hu hl => own_kt (h3 k u l hu hl) hk hT, h4⟩
/-- The plan's table with enough fuel. -/
theorem planF_12 (A : List (List Nat)) (m s n : Nat) : planF A m 12 s n = planF A m 13 s n := planF_fuel A m 11 s n (bits_len s)
theorem planF_nil (A : List (List Nat)) (m s n : Nat) : (planF A m 13 s n).length = 0 ↔ dep A m s = 0 := by
  by_cases h : dep A m s = 0
  · rw [planF_zero _ _ _ _ _ h]; simp [h]
  · rw [planF_succ _ _ _ _ _ h]; simp [h]
end Go.Proofs.YtoiemkifgdnhaaaGreatDoor
