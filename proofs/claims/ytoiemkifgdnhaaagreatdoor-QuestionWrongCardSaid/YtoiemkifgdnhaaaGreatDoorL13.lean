/- A plan's own check: the whole; what a plan holds. Conditions: sets of twelve programs at most.
  A plan's own check: the exported call. Conditions: 500 programs at most, each value one of the eleven.
  Lists and plans that are equal; a number as a value. Conditions: each value is one of the eleven.
  Whither replies lead, for the examples of the document. Conditions: plans that read; replies are numbers of the eleven values.
  Answers of a call's own. No conditions. -/
import Derived.Test.YtoiemkifgdnhaaaGreatDoorL12
import Derived.Test.YtoiemkifgdnhaaaGreatDoorL1
namespace Go.Proofs.YtoiemkifgdnhaaaGreatDoor
open Go Go.RowKit
theorem check_call (A : List (List Nat)) (m c r : Nat) (qs : List Ask) (w0 : World) (hok : Ok A m) (hA9 : ∀ l ∈ A, ∀ x ∈ l, x ≤ 9) (hm : m = inputsS A) (hql : qs.length ≤ 500) : ∀ (f s n : Nat) (w : World) (v : Value), (bitsOf s).length ≤ f → s < 2 ^ A.length → dep A m s ≠ 0 → Placed A m (f + 1) s n qs → CW w0 w c r A m qs n → Ints w v (pInts (bitsOf s)) →
    Calls Tryz.prog 45 #[.pointer (some ⟨c, 0, none⟩), .int .i64 n, v] w (ChkPost A m (f + 1) s n c r qs w0 w) := by
  intro f
  induction f with
  | zero =>
    intro s n w v hf hs hd hp hP hv
    exact check_step A m 0 s n c r qs w0 w v hok hA9 hm hs hd hp hql hP hv fun t n' w v' _ hlt => absurd hlt (by omega)
  | succ f ih =>
    intro s n w v hf hs hd hp hP hv
    exact check_step A m (f + 1) s n c r qs w0 w v hok hA9 hm hs hd hp hql hP hv fun t n' w v' ht hlt hd hp hP hv => ih t n' w v' (by omega) ht hd hp hP hv
/-- What is alike has no depth. -/
theorem alike_dep {A : List (List Nat)} {m s : Nat} (h : alikeS A (bitsOf s) = true) : dep A m s = 0 := by
  apply Classical.byContradiction
  intro hd
  obtain ⟨_, _, _, h2⟩ := inp_spec hd
  have L := gfold_law A (inp A m s) (bitsOf s)
  have hl : 2 ≤ (gfold A (inp A m s) (bitsOf s)).1.length := by rw [divS_fst, List.length_map]; exact h2
  unfold alikeS at h
  rw [List.all_eq_true] at h
  have hv : ∀ v ∈ (gfold A (inp A m s) (bitsOf s)).1, v = gval A (inp A m s) ((bitsOf s).getD 0 0) := by
    intro v hv
    obtain ⟨p, hp, e⟩ := (L.vals v).1 hv
    have h1 : A.getD p [] = A.getD ((bitsOf s).getD 0 0) [] := by simpa using h p hp
    rw [← e]; unfold gval; rw [h1]
  have hs := L.sorted
  match hl2 : (gfold A (inp A m s) (bitsOf s)).1, hl with
  | a :: b :: l, _ =>
    rw [hl2] at hv hs
    have h1 := hv a (by simp); have h3 := hv b (by simp)
    rw [List.pairwise_cons] at hs
    have := hs.1 b (by simp)
    omega
theorem bits_full {n : Nat} (h : n ≤ 12) : bitsOf (2 ^ n - 1) = List.range n := by
  unfold bitsOf
  have e : List.range 12 = List.range n ++ (List.range (12 - n)).map (n + ·) := by
    rw [← List.range_add]; congr 1; omega
  rw [e, List.filter_append]
  have h1 : (List.range n).filter (2 ^ n - 1).testBit = List.range n := by
    rw [List.filter_eq_self]
    intro k hk
    rw [Nat.testBit_two_pow_sub_one]; simpa using hk
  have h2 : ((List.range (12 - n)).map (n + ·)).filter (2 ^ n - 1).testBit = [] := by
    rw [List.filter_eq_nil_iff]
    intro k hk
    simp only [List.mem_map, List.mem_range] at hk
    obtain ⟨j, _, rfl⟩ := hk
    rw [Nat.testBit_two_pow_sub_one]; simp
  rw [h1, h2, List.append_nil]
theorem planF_holds (A : List (List Nat)) (m : Nat) (hok : Ok A m) : ∀ f s n, s < 2 ^ A.length → ∀ a ∈ planF A m f s n, a.1 < m ∧ a.2.1.length ≤ 12 ∧ (∀ x ∈ a.2.1, x ≤ 10) ∧ a.2.2.length ≤ 12 ∧ ∀ x ∈ a.2.2, -1 ≤ x ∧ x ≤ (n + 13 * f : Nat) := by
  intro f
  induction f with
  | zero => intro s n _ a ha; simp [planF] at ha
  | succ f ih =>
    intro s n hs a ha
    by_cases hd : dep A m s = 0
    · rw [planF_zero _ _ _ _ _ hd] at ha; simp at ha
    · rw [planF_succ _ _ _ _ _ hd] at ha
      obtain ⟨hi, _, _, h2⟩ := inp_spec hd
      have hg12 : (divS A (inp A m s) s).length ≤ 12 := Nat.le_trans (divS_len _ _ _) (bits_len _)
      have hset : ∀ g ∈ divS A (inp A m s) s, g.2 < 2 ^ A.length := fun g hg => set_lt hs hg
      have hval : ∀ g ∈ divS A (inp A m s) s, g.1 ≤ 10 := fun g hg => divS_val hok.row hi hs hg
      have hst := fun j hj => Nat.le_trans (stepF_le A m f n s (inp A m s) j hj) (bits_len s)
      generalize divS A (inp A m s) s = gs at *
      have key : ∀ j, j ≤ gs.length → (∀ x ∈ (stepF A m f n (gs.take j)).1, -1 ≤ x ∧ x ≤ (n + 13 : Nat)) ∧ ∀ b ∈ (stepF A m f n (gs.take j)).2, b.1 < m ∧ b.2.1.length ≤ 12 ∧ (∀ x ∈ b.2.1, x ≤ 10) ∧ b.2.2.length ≤ 12 ∧ ∀ x ∈ b.2.2, -1 ≤ x ∧ x ≤ (n + 13 * (f + 1) : Nat) := by
        intro j
        induction j with
        | zero => intro _; simp [stepF]
        | succ j ihj =>
          intro hj
          obtain ⟨k1, k2⟩ := ihj (by omega)
          have hl := hst j (by omega)
          rw [List.take_succ_eq_append_getElem (by omega), stepF_snoc]
          refine ⟨fun x hx => ?_, fun b hb => ?_⟩
          · rcases List.mem_append.1 hx with hx | hx
            · exact k1 x hx
            · simp only [List.mem_singleton] at hx
              rw [hx]; split <;> omega
          · rcases List.mem_append.1 hb with hb | hb
            · exact k2 b hb
            · obtain ⟨h1, h2, h3, h4, h5⟩ := ih _ _ (hset _ (List.getElem_mem _)) b hb
              exact ⟨h1, h2, h3, h4, fun x hx => by have := h5 x hx; omega⟩
      have hk := key gs.length (Nat.le_refl _)
      rw [List.take_length] at hk
      rcases List.mem_cons.1 ha with rfl | ha
      · refine ⟨hi, by simpa using hg12, ?_, by rw [stepF_len]; exact hg12, fun x hx => by have := hk.1 x hx; omega⟩
        intro x hx
        obtain ⟨g, hg, rfl⟩ := List.mem_map.1 hx
        exact hval g hg
      · exact hk.2 a ha
theorem make_ok {A : List (List Nat)} {h : Int} : (makeS A h).asks.length ≤ 12 ∧ ∀ a ∈ (makeS A h).asks, AskOk a := by
  unfold makeS
  split
  · rename_i he
    have hp : permS A h = 0 := by
      unfold makeE at he
      split at he
      · exact he
      · rename_i h1; exact Classical.not_not.1 h1
    obtain ⟨hr, _, _, h12, h10⟩ := perm_ok hp
    have hok := ok_of hr h12 h10
    refine ⟨?_, fun a ha => ?_⟩
    · have := planF_len A (inputsS A) 13 (fullS A) 0
      have := bits_len (fullS A)
      show (planF A (inputsS A) 13 (fullS A) 0).length ≤ 12
      omega
    · obtain ⟨h1, h2, h3, h4, h5⟩ := planF_holds A (inputsS A) hok 13 (fullS A) 0 (full_val h12).2 a ha
      exact ⟨by omega, ⟨by omega, h3⟩, ⟨by omega, fun x hx => by have := h5 x hx; omega⟩⟩
  · exact ⟨by simp, by simp⟩
/-- A plan as it reads. -/
def planI (p : PlanS) : PlanI := ⟨p.asks.map askI, p.depth, p.lower⟩
theorem OwnPlan.reads {w : World} {B : Nat} {v : Value} {A : List (List Nat)} {h : Int} (hp : OwnPlan w B v (makeS A h)) : PlanAt w v (planI (makeS A h)) := by
  obtain ⟨a, os, h1, h2⟩ := hp
  exact ⟨a, h1, h2.rows (by have := (make_ok (A := A) (h := h)).1; omega) make_ok.2⟩
end Go.Proofs.YtoiemkifgdnhaaaGreatDoor
namespace Go.Proofs.YtoiemkifgdnhaaaGreatDoor
open Go Go.RowKit
theorem upTo_p' (n : Nat) : ci (upTo n) = ci (pInts (List.range n)) := rfl
theorem make_cases {A : List (List Nat)} {h : Int} (hp : permS A h = 0) : (makeE A h = 0 ∧ (makeS A h).lower = lowerS A ∧ ((makeS A h).depth : Int) ≤ h ∧ (makeS A h).depth = dep A (inputsS A) (fullS A) ∧ (makeS A h).asks = planF A (inputsS A) 13 (fullS A) 0) ∨
    (makeE A h = 16 ∧ makeS A h = ⟨[], 0, 0⟩ ∧ dep A (inputsS A) (fullS A) ≠ 0) := by
  obtain ⟨hr, h0, h6, h12, h10⟩ := perm_ok hp
  unfold makeE makeS
  by_cases hd : h < (dep A (inputsS A) (fullS A) : Nat)
  · right
    have : makeE A h = 16 := by unfold makeE; rw [if_neg (by simp [hp]), if_pos hd]
    refine ⟨by rw [if_neg (by simp [hp]), if_pos hd], by rw [if_neg (by omega)], by omega⟩
  · left
    have : makeE A h = 0 := by unfold makeE; rw [if_neg (by simp [hp]), if_neg hd]
    refine ⟨by rw [if_neg (by simp [hp]), if_neg hd], ?_⟩
    rw [if_pos this]
    exact ⟨rfl, by show ((dep A (inputsS A) (fullS A) : Nat) : Int) ≤ h; omega, rfl, rfl⟩
set_option maxRecDepth 100000 in
set_option maxHeartbeats 1000000 in
theorem Check_call (w : World) (a v : Value) (A : List (List Nat)) (h : Int) (ha : ValRows w a A) (hp : PlanAt w v (planI (makeS A h))) (hG : G w) (hn : A.length ≤ 500) (hE : makeE A h = 0) :
    Calls Tryz.prog 15 #[a, .int .i64 h, v] w fun e w' => e = .returned (.bool true) ∧ Below w.heap.size w w' := by
  have HA := Lib.hid ha; have HG := Lib.hid hG
  obtain ⟨ao, ac, rfl, ha1⟩ := ha.1.open
  obtain ⟨pv, rfl, hq⟩ := hp
  obtain ⟨pa, pc, rfl, hq1⟩ := hq.1.open
  have hp0 : permS A h = 0 := by
    unfold makeE at hE
    split at hE
    · exact hE
    · rename_i h1; exact Classical.not_not.1 h1
  obtain ⟨hr, h0, h6, h12, h10⟩ := perm_ok hp0
  rcases make_cases hp0 with ⟨_, e1, e2, e3, e4⟩ | ⟨e1, _⟩
  case inr => omega
  obtain ⟨lo, hlo⟩ : ∃ lo, lo = lowerS A := ⟨_, rfl⟩
  obtain ⟨dp, hdp⟩ : ∃ dp, dp = dep A (inputsS A) (fullS A) := ⟨_, rfl⟩
  obtain ⟨qs, hqs⟩ : ∃ qs, qs = planF A (inputsS A) 13 (fullS A) 0 := ⟨_, rfl⟩
  have hq12 : qs.length ≤ 12 := by rw [hqs, ← e4]; exact make_ok.1
  show Calls _ _ #[_, _, .agg #[.slice pa (planI (makeS A h)).asks.length pc, .int .i64 ((makeS A h).depth : Nat), .int .i64 ((makeS A h).lower : Nat)]] _ _
  have hpl : (planI (makeS A h)).asks = qs.map askI := by unfold planI; rw [e4, hqs]
  rw [hpl] at hq hq1 ⊢
  rw [List.length_map] at hq hq1 ⊢
  rw [e1, e3, ← hlo, ← hdp]
  rw [e3, ← hdp] at e2
  have HQ := Lib.hid hq; have HR := Lib.hid hr; have HQS := Lib.hid hqs; have HLO := Lib.hid hlo; have HDP := Lib.hid hdp; have HP0 := Lib.hid hp0
  clear ha hG hq hE hp0 e1 e3 e4 hlo hdp hqs hpl hr
  have hl0 : ((lo : Int) != lo) = false := by simp
  have hd0 : decide (h < (dp : Int)) = false := by simp; omega
  go_enter Tryz.func15, Tryz.ntmps15
  go_wp2
  have b0 : Below w.heap.size w (w.alloc (.cells #[.slice pa qs.length pc, .int .i64 dp, .int .i64 lo] 29)) := below1 _ _
  have c0 : (w.alloc (.cells #[.slice pa qs.length pc, .int .i64 dp, .int .i64 lo] 29)).cell? ⟨w.heap.size, 0, none⟩ = some (.slice pa qs.length pc) := by simp
  have c1 : (w.alloc (.cells #[.slice pa qs.length pc, .int .i64 dp, .int .i64 lo] 29)).cell? ⟨w.heap.size, 1, none⟩ = some (.int .i64 dp) := by simp
  have c2 : (w.alloc (.cells #[.slice pa qs.length pc, .int .i64 dp, .int .i64 lo] 29)).cell? ⟨w.heap.size, 2, none⟩ = some (.int .i64 lo) := by simp
  have s0 : w.heap.size < (w.alloc (.cells #[.slice pa qs.length pc, .int .i64 dp, .int .i64 lo] 29)).heap.size := by simp
  obtain ⟨W0, hW0⟩ : ∃ W0, W0 = w.alloc (.cells #[.slice pa qs.length pc, .int .i64 dp, .int .i64 lo] 29) := ⟨_, rfl⟩
  rw [← hW0] at b0 c0 c1 c2 s0
  rw [← hW0]
  clear hW0
  have B0 := Lib.hid b0
  go_region_held3 (fun w' => ∀ b o, b < W0.heap.size → w'.cell? ⟨b, o, none⟩ = W0.cell? ⟨b, o, none⟩) (first | exact olds (Below.refl _ _) | exact olds ((Below.refl _ _).drew) | exact olds ‹Below W0.heap.size W0 _›)  (first | (go_at_call 35; refine (permitted_call _ _ A h (HA.out.mono b0.drew)).mono ?_; rintro e w1 ⟨rfl, hb1⟩; rw [HP0.out]; have hbw1 := bdrew hb1) | (go_at_call 38; refine (lower_call w1 _ A (HA.out.mono (bthen b0 hbw1)) (HG.out.mono (bthen b0 hbw1)) hn HR.out).mono ?_; rintro e w2 ⟨rfl, hb2⟩; rw [← HLO.out]; have hbw2 := bthen hbw1 hb2))
  have k0 := (olds hbw2 _ _ s0).trans c0
  have k1 := (olds hbw2 _ _ s0).trans c1
  have k2 := (olds hbw2 _ _ s0).trans c2
  have hbf : Below w.heap.size w w2 := bthen B0.out hbw2
  have HBF := Lib.hid hbf
  have s2 : w.heap.size < w2.heap.size := Nat.lt_of_lt_of_le s0 hbw2.size
  clear c0 c1 c2 s0 b0 hb1 hb2 hbw1 hbw2 hbf hl0 hd0
  by_cases hdz : dp = 0
  · have hqz : qs = [] := by rw [HQS.out]; exact planF_zero _ _ _ _ _ (by rw [← HDP.out]; exact hdz)
    have q0 : ((qs.length : Int) == 0) = true := by rw [hqz]; rfl
    have d0 : ((dp : Int) == 0) = true := by rw [hdz]; rfl
    have hz := dep_zero (ok_of HR.out h12 h10) (full_val h12).2 (by rw [← HDP.out]; exact hdz)
    unfold fullS at hz
    rw [bits_full h12] at hz
    have HZ := Lib.hid hz
    clear hqz hdz hz
    go_wp2_with (first | (go_at_call 44; refine (all_call _ _ A (HA.out.mono HBF.out)).mono ?_; rintro e w3 ⟨v3, rfl, ho3, hb3⟩) | (go_at_call 43; refine (alike_call _ _ _ A (List.range A.length) (HA.out.mono (bthen HBF.out hb3)) (own_ints (xs := pInts (List.range A.length)) ho3 (by rw [pInts_len, List.length_range]; omega) (pInts_ok (n := A.length) (fun p hp => by simpa using hp) (by omega))) (fun p hp => by simpa using hp)).mono ?_; rintro e w4 ⟨rfl, hb4⟩; rw [HZ.out]))
    go_ret
    exact ⟨rfl, bthen (bthen HBF.out hb3) hb4⟩
  · have hqz : qs.length ≠ 0 := by
      rw [HQS.out, planF_succ _ _ _ _ _ (by rw [← HDP.out]; exact hdz)]; simp
    have q0 : ((qs.length : Int) == 0) = false := by rw [beq_eq_false_iff_ne]; omega
    have d0 : ((dp : Int) == dp) = true := by simp
    have hmm := @run_makeMap Tryz.prog
    go_wp2_with fail
    have hcw : CW w ((w2.alloc (.map #[] 0)).alloc (.cells #[.slice ao A.length ac, .slice pa qs.length pc, .int .i64 dp, .int .i64 lo, .map (some w2.heap.size)] 79)) (w2.heap.size + 1) w2.heap.size A (inputsS A) qs 0 := by
      have hz := HBF.out.size
      refine ⟨(HBF.out.alloc hz _).alloc (by simp; omega) _, by omega, by omega, by simp, HG.out, ⟨ao, ac, by simp, HA.out⟩, ⟨pa, pc, by simp, HQ.out⟩, by simp, ⟨#[], 0, ?_, by simp [seenL]⟩⟩
      exact ((below1 (w2.alloc (.map #[] 0)) _).block w2.heap.size (by simp)).trans (heap_alloc_new w2 _)
    have hbb := below2 w2 (.map #[] 0) (.cells #[.slice ao A.length ac, .slice pa qs.length pc, .int .i64 dp, .int .i64 lo, .map (some w2.heap.size)] 79)
    obtain ⟨W3, hW3⟩ : ∃ W3, W3 = ((w2.alloc (.map #[] 0)).alloc (.cells #[.slice ao A.length ac, .slice pa qs.length pc, .int .i64 dp, .int .i64 lo, .map (some w2.heap.size)] 79)) := ⟨_, rfl⟩
    rw [← hW3] at hcw hbb
    rw [← hW3]
    obtain ⟨c, hc⟩ : ∃ c, c = w2.heap.size + 1 := ⟨_, rfl⟩
    rw [← hc] at hcw
    rw [← hc]
    have m0 := (olds hbb _ _ s2).trans k0
    have m1 := (olds hbb _ _ s2).trans k1
    have s3 : w.heap.size < W3.heap.size := Nat.lt_of_lt_of_le s2 hbb.size
    have hrw : w.heap.size ≠ w2.heap.size := by omega
    have HCW := Lib.hid hcw
    clear hW3 hc hmm k0 k1 k2 s2 hcw hbb
    refine (all_call _ _ A (HA.out.mono HCW.out.b)).mono ?_
    rintro e w3 ⟨v3, rfl, ho3, hb3⟩
    have HCW3 := Lib.hid (HCW.out.below hb3)
    have n0 := (olds hb3 _ _ s3).trans m0
    have n1 := (olds hb3 _ _ s3).trans m1
    have s4 : w.heap.size < w3.heap.size := Nat.lt_of_lt_of_le s3 hb3.size
    have hbits : bitsOf (fullS A) = List.range A.length := bits_full h12
    have hint : Ints w3 v3 (pInts (bitsOf (fullS A))) := by
      rw [hbits]; exact own_ints (xs := pInts (List.range A.length)) ho3 (by rw [pInts_len, List.length_range]; omega) (pInts_ok (n := A.length) (fun p hp => by simpa using hp) (by omega))
    have hdd : dep A (inputsS A) (fullS A) ≠ 0 := by rw [← HDP.out]; exact hdz
    have hpc : Placed A (inputsS A) (12 + 1) (fullS A) 0 qs := ⟨[], [], by rw [HQS.out, List.nil_append, List.append_nil], rfl⟩
    have HINT := Lib.hid hint; have HDD := Lib.hid hdd; have HPC := Lib.hid hpc; have HB3 := Lib.hid hb3
    clear m0 m1 s3 ho3 hb3 hbits hint hdd hpc hdz
    go_wp2_with (go_at_call 45; refine (check_call A (inputsS A) c w2.heap.size qs w (ok_of HR.out h12 h10) (fun l hl x hx => (right_rows HR.out l hl).2 x hx) rfl (by omega) 12 (fullS A) 0 _ _ (bits_len _) (full_val h12).2 HDD.out HPC.out HCW3.out HINT.out).mono ?_; rintro e w4 ⟨rfl, hg4, hcw4⟩)
    have hk4 := kp_of_map hg4 HCW3.out.mem hcw4.mem
    have p0 := (hk4.2 _ 0 s4).trans n0
    have p1 := (hk4.2 _ 1 s4).trans n1
    have p4 := hcw4.d
    have s5 : w.heap.size < w4.heap.size := Nat.lt_of_lt_of_le s4 hk4.1
    have s6 := hcw4.lt
    have hbl4 := hcw4.b
    obtain ⟨es, cn, hes, hel⟩ := hcw4.mem
    have hsz : es.size = qs.length := by
      have h1 := congrArg List.length hel
      have h2 : (planF A (inputsS A) (12 + 1) (fullS A) 0).length = qs.length := by rw [HQS.out]
      simp only [List.length_map, Array.length_toList, seenL, List.length_range] at h1
      omega
    have hsz' : (es.size : Int) = qs.length := by rw [hsz]
    have HBL4 := Lib.hid hbl4
    have hlen : ∀ (ty : TypeId) (W : World), W.heap[w2.heap.size]? = some (.map es cn) → (Builtin.len_ #[56] ty #[.map (some w2.heap.size)]).run Tryz.prog W = .ok (.int .i64 qs.length) W := fun ty W hW => by rw [run_len_map (t := 56) (ty := ty) (r := w2.heap.size) (es := es) (clock := cn) (h := by kernel_rfl) (hb := hW), hsz]; rfl
    have hesn : ∀ n, (w4.drewN n).heap[w2.heap.size]? = some (.map es cn) := fun n => hes
    have hqq : ((qs.length : Int) == qs.length) = true := by simp
    rw [← HDP.out]
    clear hk4 hel hcw4 hg4 hbl4 n0 n1
    clear hesn
    go_region_held3 (fun w' => (∀ b o, b < w4.heap.size → w'.cell? ⟨b, o, none⟩ = w4.cell? ⟨b, o, none⟩) ∧ w'.heap[w2.heap.size]? = some (.map es cn)) (first | exact ⟨olds (Below.refl _ _), hes⟩ | exact ⟨olds ((Below.refl _ _).drew), hes⟩) (fail)
    go_wp2
    go_ret
    exact ⟨rfl, HBL4.out.drew⟩
end Go.Proofs.YtoiemkifgdnhaaaGreatDoor
namespace Go.Proofs.YtoiemkifgdnhaaaGreatDoor
open Go Go.RowKit
set_option maxHeartbeats 400000 in
theorem lists_same (w : World) (a b : Value) (ls : List (List Int)) (ha : IntRows w a ls) (hb : IntRows w b ls) : Calls Tryz.prog 17 #[a, b] w fun e w' => e = .returned (.bool true) ∧ Below w.heap.size w w' := by
  have HA := Lib.hid ha; have HB := Lib.hid hb
  obtain ⟨ao, ac, rfl, ha1⟩ := ha.1.open
  obtain ⟨bo, bc, rfl, hb1⟩ := hb.1.open
  have ha2 := ha.2
  clear ha hb
  have hl' : ((ls.length : Int) != ls.length) = false := by simp
  go_enter Tryz.func17, Tryz.ntmps17
  go_wp2
  go_loopw [5, 13] (fun u i wr => ∃ k : Nat, k ≤ ls.length ∧ i = .int .i64 k ∧ Below w.heap.size w wr) (fun _ i _ => ls.length - (intOf i).toNat)
  case atStart => exact ⟨0, by omega, rfl, Below.refl _ _⟩
  case round =>
    obtain ⟨k, hk, rfl, hbel⟩ := hrel
    have HBL := Lib.hid hbel
    by_cases hlt : k < ls.length
    · have h1 : (k:Int) < ls.length := by omega
      have h0 : 0 ≤ (k:Int) := by omega
      have va := HA.out.mono hbel
      have vb := HB.out.mono hbel
      obtain ⟨b1, o1, rfl, g1, ra, rc, p0, p1⟩ := va.1.at hlt
      obtain ⟨b2, o2, rfl, g2, sa, sc, q0, q1⟩ := vb.1.at hlt
      have HP := Lib.hid p1; have HQ := Lib.hid q1
      simp only [Nat.mul_one] at p0 q0
      clear va vb hbel p1 q1
      generalize hgl : ls.getD k [] = l at *
      go_wp2
      go_region_held3 (fun w' => ∀ b o, b < wr.heap.size → w'.cell? ⟨b, o, none⟩ = wr.cell? ⟨b, o, none⟩) (first | exact olds (Below.refl _ _) | exact olds ((Below.refl _ _).drew) | exact olds ‹Below wr.heap.size wr _›)  (first | (go_at_call 20; refine (ints13 _ _ _ _ _ (HP.out.mono (Below.refl _ _).drew) (HQ.out.mono (Below.refl _ _).drew)).mono ?_; rintro e w1 ⟨rfl, hbq⟩; have hbw1 := bdrew hbq; simp only [beq_self_eq_true]))
      go_wp2
      refine ⟨⟨k + 1, by omega, by go_num, bthen HBL.out hbw1⟩, by simp [intOf]; omega⟩
    · clear hbel
      go_wp2
      go_ret
      exact ⟨rfl, HBL.out⟩
theorem va_num (x : Nat) (n : Int) (hk : kd x = 2) (hd : dn x = n) (hs : st x = ⟨#[]⟩) (hn : nn x = 0) : va x none 0 = .agg #[.int .i64 2, .string ⟨#[]⟩, .int .i64 n, .int .i64 0, .int .i64 0, .slice none 0 0, .slice none 0 0] := by
  rw [va, hk, hd, hs, hn]
theorem number_call (x : Nat) (n : Int) (w : World) (hk : kd x = 2) (hd : dn x = n) (hs : st x = ⟨#[]⟩) (hn : nn x = 0) : Calls Tryz.prog 33 #[.int .i64 n] w fun e w' => e = .returned (va x none 0) ∧ Below w.heap.size w w' := by
  rw [va_num x n hk hd hs hn]
  clear hk hd hs hn
  go_enter Tryz.func33, Tryz.ntmps33
  go_wp2
  refine bodyPost_ret (v := .agg #[.int .i64 2, .string ⟨#[]⟩, .int .i64 n, .int .i64 0, .int .i64 0, .slice none 0 0, .slice none 0 0]) ?_ rfl ⟨rfl, ?_⟩
  · simp [results, Tryz.results33, go_sem]
  · exact (by repeat (first | with_reducible exact Below.refl _ _ | with_reducible assumption | with_reducible refine Below.drew ?_ | with_reducible refine Below.alloc ?_ (by first | omega | (simp; done) | (simp; omega)) _ | with_reducible refine Below.setCell ?_ (by first | omega | (simp; done) | (simp; omega)) _))
set_option maxRecDepth 100000 in
set_option maxHeartbeats 1000000 in
theorem same25_call (w : World) (a b : Value) (p : PlanI) (ha : PlanAt w a p) (hb : PlanAt w b p) : Calls Tryz.prog 14 #[a, b] w fun e w' => e = .returned (.bool true) ∧ Below w.heap.size w w' := by
  obtain ⟨av, rfl, ha⟩ := ha
  obtain ⟨bv, rfl, hb⟩ := hb
  obtain ⟨qs, dp, lo⟩ := p
  simp only at ha hb ⊢
  have HA := Lib.hid ha; have HB := Lib.hid hb
  obtain ⟨ao, ac, rfl, ha1⟩ := ha.1.open
  obtain ⟨bo, bc, rfl, hb1⟩ := hb.1.open
  have hql := ha.2.1
  have e1 : (dp != dp) = false := by simp
  have e2 : (lo != lo) = false := by simp
  have e3 : ((qs.length : Int) != qs.length) = false := by simp
  clear ha hb
  go_enter Tryz.func14, Tryz.ntmps14
  go_wp2
  go_loopw [5, 6, 7] (fun i _ _ wr => ∃ k : Nat, k ≤ qs.length ∧ i = .int .i64 k ∧ wr.cell? ⟨w.heap.size, 0, none⟩ = some (.slice ao qs.length ac) ∧ wr.cell? ⟨w.heap.size + 1, 0, none⟩ = some (.slice bo qs.length bc) ∧ Below w.heap.size w wr ∧ w.heap.size + 1 < wr.heap.size) (fun i _ _ _ => qs.length - (intOf i).toNat)
  case atStart => exact ⟨0, by omega, rfl, by simp, by simp, below2 _ _ _, by simp⟩
  case round =>
    obtain ⟨k, hk, rfl, c1, c2, hbel, hsz⟩ := hrel
    have HBL := Lib.hid hbel
    have hsz0 : w.heap.size < wr.heap.size := by omega
    by_cases hlt : k < qs.length
    · have h1 : (k:Int) < qs.length := by omega
      have h0 : 0 ≤ (k:Int) := by omega
      have va := HA.out.mono hbel
      have vb := HB.out.mono hbel
      obtain ⟨b1, o1, rfl, g1, p0, ⟨aa, ac1, p1, p2⟩, ⟨na, nc, p3, p4⟩⟩ := va.1.at hlt
      obtain ⟨b2, o2, rfl, g2, q0, ⟨ba, bc1, q1, q2⟩, ⟨nb, nd, q3, q4⟩⟩ := vb.1.at hlt
      have HP2 := Lib.hid p2; have HQ2 := Lib.hid q2; have HP4 := Lib.hid p4; have HQ4 := Lib.hid q4
      have hnl := p4.2.1
      clear va vb hbel p2 p4 q2 q4
      generalize hgq : qs.getD k a0 = q at *
      obtain ⟨qi, qv, qn⟩ := q
      simp only at p0 p1 p3 q0 q1 q3 HP2 HQ2 HP4 HQ4 hnl
      have d1 : (qi != qi) = false := by simp
      have d2 : ((qn.length : Int) != qn.length) = false := by simp
      clear hgq
      go_wp2
      go_region_held3 (fun w' => ∀ b o, b < wr.heap.size → w'.cell? ⟨b, o, none⟩ = wr.cell? ⟨b, o, none⟩) (first | exact olds (Below.refl _ _) | exact olds ((Below.refl _ _).drew) | exact olds ‹Below wr.heap.size wr _›)  (first | (go_at_call 32; refine (same06 _ _ _ _ _ (HP2.out.mono (Below.refl _ _).drew) (HQ2.out.mono (Below.refl _ _).drew)).mono ?_; rintro e w1 ⟨rfl, hbq⟩; have hbw1 := bdrew hbq; simp only [beq_self_eq_true]))
      have k1 := (olds hbw1 _ _ hsz0).trans c1
      have k2 := (olds hbw1 _ _ hsz).trans c2
      have m0 := (olds hbw1 _ _ g1).trans p0
      have m3 := (olds hbw1 _ _ g1).trans p3
      have n0 := (olds hbw1 _ _ g2).trans q0
      have n3 := (olds hbw1 _ _ g2).trans q3
      have HI1 := Lib.hid (HP4.out.mono hbw1); have HI2 := Lib.hid (HQ4.out.mono hbw1); have HB1 := Lib.hid hbw1
      have hs1 := Nat.lt_of_lt_of_le hsz hbw1.size
      have hs2 := Nat.lt_of_lt_of_le hsz0 hbw1.size
      have g3 := Nat.lt_of_lt_of_le g1 hbw1.size
      have g4 := Nat.lt_of_lt_of_le g2 hbw1.size
      clear hbq hbw1 p1 q1
      go_wp2
      go_region_held3 (fun w' => ∀ b o, b < w1.heap.size → w'.cell? ⟨b, o, none⟩ = w1.cell? ⟨b, o, none⟩) (first | exact olds (Below.refl _ _) | exact olds ((Below.refl _ _).drew) | exact olds ‹Below w1.heap.size w1 _›)  (fail)
      go_wp2
      have HBW := Lib.hid (bthen HBL.out HB1.out)
      clear c1 c2 p0 p3 q0 q3
      go_loopw [7] (fun i wz => ∃ j : Nat, j ≤ qn.length ∧ i = .int .i64 j ∧ Below w1.heap.size w1 wz) (fun i _ => qn.length - (intOf i).toNat)
      case atStart => exact ⟨0, by omega, rfl, (Below.refl _ _).drew⟩
      case round =>
        obtain ⟨j, hj, rfl, hbel⟩ := hrel
        have HBZ := Lib.hid hbel
        have x1 := (olds hbel _ _ hs2).trans k1
        have x2 := (olds hbel _ _ hs1).trans k2
        have y0 := (olds hbel _ _ g3).trans m0
        have y3 := (olds hbel _ _ g3).trans m3
        have z0 := (olds hbel _ _ g4).trans n0
        have z3 := (olds hbel _ _ g4).trans n3
        have t1 := Nat.lt_of_lt_of_le hs1 hbel.size
        have t2 := Nat.lt_of_lt_of_le hs2 hbel.size
        have t3 := Nat.lt_of_lt_of_le g3 hbel.size
        have t4 := Nat.lt_of_lt_of_le g4 hbel.size
        by_cases hjl : j < qn.length
        · have j1 : (j:Int) < qn.length := by omega
          have j0 : 0 ≤ (j:Int) := by omega
          have vi := HI1.out.mono hbel
          have vj := HI2.out.mono hbel
          obtain ⟨b3, o3, rfl, g5, r0⟩ := vi.1.at hjl
          obtain ⟨b4, o4, rfl, g6, r1⟩ := vj.1.at hjl
          simp only [Nat.mul_one] at r0 r1
          generalize hv : qn.getD j 0 = v at *
          have dv : (v != v) = false := by simp
          clear vi vj hbel hv
          go_wp2
          go_region_held3 (fun w' => ∀ b o, b < wr.heap.size → w'.cell? ⟨b, o, none⟩ = wr.cell? ⟨b, o, none⟩) (first | exact olds (Below.refl _ _) | exact olds ((Below.refl _ _).drew) | exact olds ‹Below wr.heap.size wr _›)  (fail)
          go_wp2
          refine ⟨⟨j + 1, by omega, by go_num, HBZ.out.drew⟩, by simp [intOf]; omega⟩
        · clear hbel
          go_wp2
          exact ⟨⟨k + 1, by omega, by go_num, x1, x2, bthen HBW.out HBZ.out, t1⟩, by simp [intOf]; omega⟩
    · clear hbel
      go_wp2
      go_ret
      exact ⟨rfl, HBL.out⟩
end Go.Proofs.YtoiemkifgdnhaaaGreatDoor
namespace Go.Proofs.YtoiemkifgdnhaaaGreatDoor
open Go Go.RowKit
theorem num_val {x : Nat} (hx : 4 ≤ x ∧ x ≤ 8) : kd x = 2 ∧ st x = ⟨#[]⟩ ∧ nn x = 0 := by
  obtain ⟨h1, h2⟩ := hx
  have : x = 4 ∨ x = 5 ∨ x = 6 ∨ x = 7 ∨ x = 8 := by omega
  rcases this with rfl | rfl | rfl | rfl | rfl <;> simp [kd, st, nn]
theorem number_val {x : Nat} (w : World) (hx : 4 ≤ x ∧ x ≤ 8) : Calls Tryz.prog 33 #[.int .i64 (dn x)] w fun e w' => e = .returned (va x none 0) ∧ Below w.heap.size w w' :=
  number_call x (dn x) w (num_val hx).1 rfl (num_val hx).2.1 (num_val hx).2.2
def zv (xs : List Nat) : List (Nat × Option Addr × Nat) := xs.map fun x => (x, none, 0)
theorem zv_map (xs : List Nat) : (zv xs).map (·.1) = xs := by unfold zv; rw [List.map_map]; exact List.map_id' xs
set_option maxRecDepth 100000 in
set_option maxHeartbeats 1000000 in
theorem follows_call (w : World) (v b : Value) (p : PlanI) (xs : List Nat) (at_ : Int) (ok : Bool) (hp : PlanAt w v p) (hb : Ints w b (xs.map dn)) (hx : ∀ x ∈ xs, 4 ≤ x ∧ x ≤ 8) (hl : xs.length ≤ 100) (hf : followS p.asks xs = (at_, ok)) :
    Calls Tryz.prog 34 #[v, .int .i64 at_, .bool ok, b] w fun e w' => e = .returned (.bool true) ∧ Below w.heap.size w w' := by
  have HP := Lib.hid hp; have HB := Lib.hid hb; have HX := Lib.hid hx; have HF := Lib.hid hf
  obtain ⟨pa, rfl, hq⟩ := hp
  obtain ⟨ba, bc, rfl, hb1⟩ := hb.1.open
  rw [List.length_map] at *
  obtain ⟨i0, hi, hz0, hz1, hz2⟩ := info_parts info_value
  have Hi := Lib.hid hi; have Hz0 := Lib.hid hz0; have Hz1 := Lib.hid hz1; have Hz2 := Lib.hid hz2
  obtain ⟨qa, qc, rfl, _⟩ := hq.1.open
  clear hb hx hf hq hi hz0 hz1 hz2
  go_enter Tryz.func34, Tryz.ntmps34
  go_wp2
  go_loopw [9, 11, 16] (fun l u i wr => ∃ j : Nat, j ≤ xs.length ∧ i = .int .i64 j ∧ wr.ownsRow (w.heap.size + 1) 47 7 l j (cvs (zv (xs.take j))) ∧ wr.cell? ⟨w.heap.size, 0, none⟩ = some (.slice qa p.asks.length qc) ∧ wr.cell? ⟨w.heap.size, 1, none⟩ = some (.int .i64 p.depth) ∧ wr.cell? ⟨w.heap.size, 2, none⟩ = some (.int .i64 p.lower) ∧ Below w.heap.size w wr ∧ w.heap.size < wr.heap.size) (fun _ _ i _ => xs.length - (intOf i).toNat)
  case atStart => exact ⟨0, by omega, rfl, World.ownsRow_nil _ _ _ _, by simp, by simp, by simp, below1 _ _, by simp⟩
  case round =>
    obtain ⟨j, hj, rfl, ho, c0, c1, c2, hbel, hsz⟩ := hrel
    have HO := Lib.hid ho; have HBL := Lib.hid hbel
    obtain ⟨la, lc, rfl⟩ := own_slice ho
    by_cases hlt : j < xs.length
    · have q1 : (j:Int) < xs.length := by omega
      have q0 : 0 ≤ (j:Int) := by omega
      have va := HB.out.mono hbel
      obtain ⟨b1, o1, rfl, g1, p0⟩ := va.1.at (show j < (xs.map dn).length by simpa using hlt)
      obtain ⟨x, hx⟩ : ∃ x, x = xs[j] := ⟨_, rfl⟩
      have hd : (xs.map dn).getD j 0 = dn x := by rw [hx, List.getD_eq_getElem?_getD, List.getElem?_map, List.getElem?_eq_getElem hlt]; rfl
      rw [hd] at p0
      simp only [Nat.mul_one] at p0
      have hxr := HX.out x (by rw [hx]; exact List.getElem_mem _)
      have htk : xs.take (j + 1) = xs.take j ++ [x] := by rw [List.take_succ_eq_append_getElem hlt, hx]
      have HTK := Lib.hid htk; have HXR := Lib.hid hxr
      clear va hd hx hxr htk ho hbel
      go_wp2_with (first | (go_at_call 33; refine (number_val _ HXR.out).mono ?_; rintro e w1 ⟨rfl, hb1⟩; have hc1 := olds hb1; have hz1 := hb1.size) | (at_builtin; refine wpList_app rfl (.tmp 20) (.tmp 23) 42 rfl (w.heap.size + 1) 47 i0 _ 7 96 und_vals Hi.out Hz0.out Hz1.out Hz2.out rfl (by decide) _ _ _ rfl ((own_below HO.out hb1).alloc _) ⟨w1.heap.size, 0, none⟩ 1 1 (cv (x, none, 0)) rfl rfl (One.cells (heap_alloc_new w1 _)) (cvs_one' (x, none, 0)) (by unfold maxLen; omega) (by omega) (by simp; omega) ?_; intro v' w9 hown hgr hfr))
      have hblw : Below w.heap.size w w1 := bthen HBL.out hb1
      have hz9 : w1.heap.size ≤ w9.heap.size := by have := hgr.size; simp at this; omega
      have hcell : ∀ o u, wr.cell? ⟨w.heap.size, o, none⟩ = some u → w9.cell? ⟨w.heap.size, o, none⟩ = some u := fun o u hu =>
        World.grownBy.cell hgr ((olds (below1 w1 _) _ _ (by omega)).trans ((olds hb1 _ _ hsz).trans hu)) (fun e => Nat.not_succ_le_self w.heap.size (HO.out.lt w.heap.size e.symm).1)
      refine ⟨⟨j + 1, by omega, by go_num, ?_, hcell _ _ c0, hcell _ _ c1, hcell _ _ c2, (hblw.alloc hblw.size _).grown hgr (by have := hblw.size; simp; omega) (fun g hg => by have := (HO.out.lt g hg).1; omega), by omega⟩, by simp [intOf]; omega⟩
      rw [HTK.out]
      have e : zv (xs.take j ++ [x]) = zv (xs.take j) ++ [(x, none, 0)] := by simp [zv]
      rw [e, cvs_snoc]; exact hown
    · obtain rfl : j = xs.length := by omega
      rw [List.take_length] at ho
      have hv := own_vals (n := xs.length) ho (by simp [zv]; omega) (fun z hz => by
        obtain ⟨x, hx, rfl⟩ := List.mem_map.1 hz
        have := HX.out x hx; show x ≤ 10; omega)
      rw [zv_map] at hv
      have HV := Lib.hid hv
      clear ho hv hbel
      go_wp2_with (go_at_call 26; refine (Follow_call _ _ _ p xs (HP.out.mono HBL.out) HV.out).mono ?_; rintro e w1 ⟨rfl, hb1⟩; rw [HF.out])
      go_ret
      exact ⟨ret_bool (by simp), bthen HBL.out hb1⟩
end Go.Proofs.YtoiemkifgdnhaaaGreatDoor
namespace Go.Proofs.YtoiemkifgdnhaaaGreatDoor
open Go Go.RowKit
theorem n1 (w : World) : Calls Tryz.prog 33 #[.int .i64 1] w fun e w' => e = .returned (va 4 none 0) ∧ Below w.heap.size w w' := number_val w (x := 4) (by omega)
theorem n2 (w : World) : Calls Tryz.prog 33 #[.int .i64 2] w fun e w' => e = .returned (va 5 none 0) ∧ Below w.heap.size w w' := number_val w (x := 5) (by omega)
theorem n3 (w : World) : Calls Tryz.prog 33 #[.int .i64 3] w fun e w' => e = .returned (va 6 none 0) ∧ Below w.heap.size w w' := number_val w (x := 6) (by omega)
theorem n5 (w : World) : Calls Tryz.prog 33 #[.int .i64 5] w fun e w' => e = .returned (va 7 none 0) ∧ Below w.heap.size w w' := number_val w (x := 7) (by omega)
theorem n7 (w : World) : Calls Tryz.prog 33 #[.int .i64 7] w fun e w' => e = .returned (va 8 none 0) ∧ Below w.heap.size w w' := number_val w (x := 8) (by omega)
theorem own_new (w : World) (base : Nat) (e : TypeId) (sz n : Nat) (cs : List Value) (hb : base ≤ w.heap.size) (hl : cs.length = n * sz) (hn : n ≤ maxLen) : (w.alloc (.cells cs.toArray e)).ownsRow base e sz (.slice (some ⟨w.heap.size, 0, none⟩) n n) n cs :=
  ⟨hl, .inr ⟨w.heap.size, n, cs.toArray, rfl, hb, heap_alloc_new w _, Nat.le_refl _, hn, by simpa using hl, by rw [← hl]; simp⟩⟩
theorem own_new2 (w : World) (base x y : Nat) (hb : base ≤ w.heap.size) : (w.alloc (.cells (cv (x, none, 0) ++ cv (y, none, 0)).toArray 47)).ownsRow base 47 7 (.slice (some ⟨w.heap.size, 0, none⟩) 2 2) 2 (cvs [(x, none, 0), (y, none, 0)]) :=
  own_new w base _ 7 2 _ hb rfl (by unfold maxLen; omega)
theorem vals_own2 {w : World} {base x y : Nat} {v : Value} (h : w.ownsRow base 47 7 v 2 (cvs [(x, none, 0), (y, none, 0)])) (hx : x ≤ 10) (hy : y ≤ 10) : Vals w v [x, y] :=
  own_vals (zs := [(x, none, 0), (y, none, 0)]) h (by simp) (by simp; omega)
theorem rows_own {w : World} {base : Nat} {v : Value} {A : List (List Nat)} {us : List Value} (h : w.ownsRow base 42 1 v A.length us) (hl : us.length = A.length) (hA : A.length ≤ 1000) (hu : ∀ (k : Nat) (u : Value) (l : List Nat), us[k]? = some u → A[k]? = some l → Vals w u l) : ValRows w v A := by
  refine ⟨?_, hA⟩
  rcases own_cases h with ⟨rfl, h0⟩ | ⟨g, cap, rfl, _, hg, hn, hc⟩
  · rw [h0]; exact sl_nil _ _ _
  · refine ⟨_, cap, rfl, hn, fun _ => ⟨g, 0, rfl, hg, fun k hk => ?_⟩⟩
    have h1 := hu k us[k] A[k] (by simp [hl, hk]) (by simp [hk])
    obtain ⟨ra, rc, e, _⟩ := h1.1.open
    have e2 : A.getD k [] = A[k] := by simp [List.getD_eq_getElem?_getD, hk]
    show ∃ ra rc, w.cell? ⟨g, 0 + k * 1, none⟩ = some (.slice ra (A.getD k []).length rc) ∧ Vals w (.slice ra (A.getD k []).length rc) (A.getD k [])
    rw [e2]
    refine ⟨ra, rc, ?_, by rw [← e]; exact h1⟩
    rw [show 0 + k * 1 = k by omega, hc k (by omega), ← e]; simp [hl, hk]
theorem bstep {w a b : World} {o : Obj} (h : Below w.heap.size w a) (p : Below (a.alloc o).heap.size (a.alloc o) b) : Below w.heap.size w b := (h.alloc h.size o).trans (p.mono (by have := h.size; simp; omega))
theorem bin {a b : World} {o : Obj} (p : Below (a.alloc o).heap.size (a.alloc o) b) : Below a.heap.size a b := bstep (Below.refl _ _) p
abbrev ZV := Nat × Option Addr × Nat
/-- Answers in rows of the call's own. -/
def OwnRows (w : World) (B : Nat) (v : Value) (zss : List (List ZV)) : Prop :=
  ∃ us : List Value, w.ownsRow B 42 1 v zss.length us ∧ us.length = zss.length ∧
    (∀ (k : Nat) (u : Value) (zs : List ZV), us[k]? = some u → zss[k]? = some zs → w.ownsRow B 47 7 u zs.length (cvs zs)) ∧ Apart us
theorem OwnRows.below {w w' : World} {B : Nat} {v : Value} {zss : List (List ZV)} (h : OwnRows w B v zss) (hb : Below w.heap.size w w') : OwnRows w' B v zss := by
  obtain ⟨us, h1, h2, h3, h4⟩ := h
  exact ⟨us, own_below h1 hb, h2, fun k u zs hu hz => own_below (h3 k u zs hu hz) hb, h4⟩
def zvals (zss : List (List ZV)) : List (List Nat) := zss.map fun zs => zs.map (·.1)
theorem OwnRows.rows {w : World} {B : Nat} {v : Value} {zss : List (List ZV)} (h : OwnRows w B v zss) (hl : zss.length ≤ 1000) (hz : ∀ zs ∈ zss, zs.length ≤ 1000 ∧ ∀ z ∈ zs, z.1 ≤ 10) : ValRows w v (zvals zss) := by
  obtain ⟨us, h1, h2, h3, h4⟩ := h
  refine rows_own (A := zvals zss) (by rw [zvals, List.length_map]; exact h1) (by rw [zvals, List.length_map]; exact h2) (by rw [zvals, List.length_map]; exact hl) (fun k u l hu hl => ?_)
  rw [zvals, List.getElem?_map] at hl
  cases hk : zss[k]? with
  | none => rw [hk] at hl; simp at hl
  | some zs =>
    rw [hk] at hl; simp at hl; subst hl
    have hm := hz zs (List.mem_of_getElem? hk)
    exact own_vals (h3 k u zs hu hk) hm.1 hm.2
/-- The block of a row that the call owns. -/
theorem own_block {w : World} {B : Nat} {e : TypeId} {s n : Nat} {v : Value} {xs : List Value} (h : w.ownsRow B e s v n xs) {g : Nat} (hg : v.ownBlock = some g) : ∃ cur, w.heap[g]? = some (.cells cur e) := by
  rcases h.2 with ⟨rfl, _⟩ | ⟨g', cap, cur, rfl, _, hc, _⟩
  · simp [Value.ownBlock] at hg
  · simp [Value.ownBlock] at hg; subst hg; exact ⟨cur, hc⟩
/-- One row is put in another's place: where it lies anew, or grew in its own block. -/
theorem OwnRows.put {w w1 : World} {B k : Nat} {v u u' : Value} {us : List Value} {zss : List (List ZV)} {zs : List ZV} (h1 : w.ownsRow B 42 1 v zss.length us) (h2 : us.length = zss.length)
    (h3 : ∀ (k : Nat) (u : Value) (zs : List ZV), us[k]? = some u → zss[k]? = some zs → w.ownsRow B 47 7 u zs.length (cvs zs)) (h4 : Apart us) (hu : us[k]? = some u)
    (hg : w.grownBy w1 u.ownBlock) (hn : w1.ownsRow B 47 7 u' zs.length (cvs zs)) (hf : u'.ownBlock = u.ownBlock ∨ ∀ g, u'.ownBlock = some g → w.heap.size ≤ g) {g cap : Nat} (hv : v = .slice (some ⟨g, 0, none⟩) zss.length cap) :
    OwnRows (w1.setCell ⟨g, k, none⟩ u') B v (zss.set k zs) := by
  have hk := (List.getElem?_eq_some_iff.1 hu).1
  have hlt : ∀ (i : Nat) (x : Value) (b : Nat), us[i]? = some x → x.ownBlock = some b → b < w.heap.size := by
    intro i x b hx hb
    have hi := (List.getElem?_eq_some_iff.1 hx).1
    exact ((h3 i x zss[i] hx (by simp)).lt b hb).2
  have hne : ∀ (i : Nat) (x : Value), i ≠ k → us[i]? = some x → x.ownBlock = none ∨ x.ownBlock ≠ u.ownBlock := by
    intro i x hi hx
    cases hb : x.ownBlock with
    | none => exact .inl rfl
    | some b => right; intro e; exact h4 i k x u b hi hx hu hb e.symm
  have hvt : ∀ (x : Value) (n : Nat) (xs : List Value) (W : World), W.ownsRow B 47 7 x n xs → W.ownsRow B 42 1 v zss.length us → x.ownBlock ≠ some g := by
    intro x n xs W hx hW e
    have := own_apart hx hW (by decide)
    rw [hv, e] at this; simp [Value.ownBlock] at this
  have hut : u.ownBlock ≠ some g := hvt u zss[k].length _ w (h3 k u (zss[k]'(by omega)) hu (by simp)) h1
  have h1' : w1.ownsRow B 42 1 v zss.length us := h1.kept hg (by rw [hv]; simp only [Value.ownBlock, ne_eq]; exact .inr fun e => hut e.symm)
  refine ⟨us.set k u', ?_, by rw [List.length_set, List.length_set]; exact h2, ?_, ?_⟩
  · rw [List.length_set]; subst hv; exact (h1'.stored k u').1
  · intro i x ys hx hy
    by_cases hik : i = k
    · subst hik
      rw [List.getElem?_set_self hk] at hx; rw [List.getElem?_set_self (by omega)] at hy
      cases hx; cases hy
      exact ownsRow_setCell_other hn (hvt _ _ _ w1 hn h1') _
    · rw [List.getElem?_set_ne (Ne.symm hik)] at hx hy
      have ho := (h3 i x ys hx hy).kept hg (hne i x hik hx)
      exact ownsRow_setCell_other ho (hvt _ _ _ w1 ho h1') _
  · intro i j x x' b hij hx hx' hb hb'
    have fr : ∀ (i : Nat) (x : Value), i ≠ k → us[i]? = some x → x.ownBlock = some b → u'.ownBlock = some b → False := by
      intro i x hi hx hb hb'
      rcases hf with e | e
      · exact h4 i k x u b hi hx hu hb (by rw [← e]; exact hb')
      · have := e b hb'; have := hlt i x b hx hb; omega
    by_cases hik : k = i
    · subst hik
      rw [List.getElem?_set_self hk] at hx; cases hx
      rw [List.getElem?_set_ne hij] at hx'
      exact fr j x' (Ne.symm hij) hx' hb' hb
    · rw [List.getElem?_set_ne hik] at hx
      by_cases hjk : k = j
      · subst hjk
        rw [List.getElem?_set_self hk] at hx'; cases hx'
        exact fr i x (Ne.symm hik) hx hb hb'
      · rw [List.getElem?_set_ne hjk] at hx'
        exact h4 i j x x' b hij hx hx' hb hb'
end Go.Proofs.YtoiemkifgdnhaaaGreatDoor
