/- A plan in which one thing is changed, by the reference: the walk. Conditions: as in the plans that are made. -/
import Derived.Test.YtoiemkifgdnhaaaGreatDoorK3
import Derived.Test.YtoiemkifgdnhaaaGreatDoorF1
import Derived.Test.YtoiemkifgdnhaaaGreatDoorM2
import Derived.StillTailTactics
namespace Go.Proofs.YtoiemkifgdnhaaaGreatDoor
open Go Go.RowKit
def PlanSome (w : World) (v : Value) : Prop := ∃ p, PlanAt w v p
def BentPost (w : World) (e : Ending) (w' : World) : Prop := ∃ v, e = .returned v ∧ PlanSome w' v ∧ Below w.heap.size w w'
theorem PlanSome.mk {w : World} {a : Value} {d l : Int} (h : AskSome w a) : PlanSome w (.agg #[a, .int .i64 d, .int .i64 l]) := by
  obtain ⟨qs, h⟩ := h
  exact ⟨⟨qs, d, l⟩, a, rfl, h⟩
theorem drewc {w : World} {a : Addr} {v : Option Value} (h : w.cell? a = v) : w.drew.cell? a = v := h
theorem Tch.drew {L B : Nat} {S : Nat → Prop} {w w1 : World} (h : Tch L B S w w1) : Tch L B S w w1.drew := h
theorem cset7 {W : World} {b : Nat} {o : Nat} {u : Option Value} {u0 u1 u2 u3 u4 u5 u6 : Value} (ho : 7 ≤ o) (h : W.cell? ⟨b, o, none⟩ = u) : (((((((W.setCell ⟨b, 0, none⟩ u0).setCell ⟨b, 0 + 1, none⟩ u1).setCell ⟨b, 0 + 2, none⟩ u2).setCell ⟨b, 0 + 3, none⟩ u3).setCell ⟨b, 0 + 4, none⟩ u4).setCell ⟨b, 0 + 5, none⟩ u5).setCell ⟨b, 0 + 6, none⟩ u6).cell? ⟨b, o, none⟩ = u := by
  repeat rw [cset_off (by omega)]
  exact h
theorem at_own {w : World} {L g n cap k : Nat} {zs : List ZV} {xs : List Nat} (h : w.ownsRow L 47 7 (.slice (some ⟨g, 0, none⟩) n cap) n (cvs zs)) (hz : zs.map (·.1) = xs) (hk : k < n) : VAt w g (k * 7) (xs.getD k 0) := by
  have hl : zs.length = n := by have := h.1; rw [cvs_len] at this; omega
  have q : ∀ j, j < 7 → w.cell? ⟨g, k * 7 + j, none⟩ = (cv zs[k])[j]? := fun j hj => by
    rw [h.cellAt _ (by omega), cvs_get zs hj]; simp [hl, hk]
  have e1 : xs.getD k 0 = zs[k].1 := by rw [← hz]; simp [hl, hk]
  rw [e1]
  exact ⟨zs[k].2.1, zs[k].2.2, q 0 (by omega), q 1 (by omega), q 2 (by omega), q 3 (by omega), q 4 (by omega), q 5 (by omega), q 6 (by omega)⟩
set_option maxHeartbeats 1000000 in
theorem Qs.swapped {L : Nat} {W W8 w' : World} {g cap gv ac m k y0 y1 vd0 vd1 : Nat} {vc0 vc1 : Option Addr} {qs : List Ask} {os : List (Nat × Value × Value)} {o : Nat × Value × Value} (h : Qs L W g qs os) (hl : qs.length ≤ 1000) (hc : qs.length ≤ cap) (ho : os[k]? = some o) (hva : o.2.1 = .slice (some ⟨gv, 0, none⟩) m ac)
    (dL : L ≤ gv) (hb : Below W.heap.size W W8) (d5 : gv < W8.heap.size) (hy0 : y0 ≤ 10) (hy1 : y1 ≤ 10) (p00 : W8.cell? ⟨gv, 0, none⟩ = some (.int .i64 (kd y0))) (p01 : W8.cell? ⟨gv, 1, none⟩ = some (.string (st y0))) (p02 : W8.cell? ⟨gv, 2, none⟩ = some (.int .i64 (dn y0))) (p03 : W8.cell? ⟨gv, 3, none⟩ = some (.int .i64 0)) (p04 : W8.cell? ⟨gv, 4, none⟩ = some (.int .i64 (nn y0))) (p05 : W8.cell? ⟨gv, 5, none⟩ = some (.slice vc0 0 vd0)) (p06 : W8.cell? ⟨gv, 6, none⟩ = some (.slice none 0 0)) (p10 : W8.cell? ⟨gv, 7, none⟩ = some (.int .i64 (kd y1))) (p11 : W8.cell? ⟨gv, 8, none⟩ = some (.string (st y1))) (p12 : W8.cell? ⟨gv, 9, none⟩ = some (.int .i64 (dn y1))) (p13 : W8.cell? ⟨gv, 10, none⟩ = some (.int .i64 0)) (p14 : W8.cell? ⟨gv, 11, none⟩ = some (.int .i64 (nn y1))) (p15 : W8.cell? ⟨gv, 12, none⟩ = some (.slice vc1 0 vd1)) (p16 : W8.cell? ⟨gv, 13, none⟩ = some (.slice none 0 0)) (ht : Tch L gv (fun _ => False) ((((((((((((((W8.setCell ⟨gv, 0, none⟩ (.int .i64 (kd y1))).setCell ⟨gv, 1, none⟩ (.string (st y1))).setCell ⟨gv, 2, none⟩ (.int .i64 (dn y1))).setCell ⟨gv, 3, none⟩ (.int .i64 0)).setCell ⟨gv, 4, none⟩ (.int .i64 (nn y1))).setCell ⟨gv, 5, none⟩ (.slice vc1 0 vd1)).setCell ⟨gv, 6, none⟩ (.slice none 0 0)).setCell ⟨gv, 7, none⟩ (.int .i64 (kd y0))).setCell ⟨gv, 8, none⟩ (.string (st y0))).setCell ⟨gv, 9, none⟩ (.int .i64 (dn y0))).setCell ⟨gv, 10, none⟩ (.int .i64 0)).setCell ⟨gv, 11, none⟩ (.int .i64 (nn y0))).setCell ⟨gv, 12, none⟩ (.slice vc0 0 vd0)).setCell ⟨gv, 13, none⟩ (.slice none 0 0)) w') : AskSome w' (.slice (some ⟨g, 0, none⟩) qs.length cap) := by
  have V1 := vat_put (w := W8) (b := gv) (o := 0) (x := y1) (c := vc1) (d := vd1) p00 p01 p02 p03 p04 p05 p06
  have V2 := vat_put (w := _) (b := gv) (o := 7) (x := y0) (c := vc0) (d := vd0) (cset7 (W := W8) (b := gv) (u0 := .int .i64 (kd y1)) (u1 := .string (st y1)) (u2 := .int .i64 (dn y1)) (u3 := .int .i64 0) (u4 := .int .i64 (nn y1)) (u5 := .slice vc1 0 vd1) (u6 := .slice none 0 0) (by omega) p10) (cset7 (W := W8) (b := gv) (u0 := .int .i64 (kd y1)) (u1 := .string (st y1)) (u2 := .int .i64 (dn y1)) (u3 := .int .i64 0) (u4 := .int .i64 (nn y1)) (u5 := .slice vc1 0 vd1) (u6 := .slice none 0 0) (by omega) p11) (cset7 (W := W8) (b := gv) (u0 := .int .i64 (kd y1)) (u1 := .string (st y1)) (u2 := .int .i64 (dn y1)) (u3 := .int .i64 0) (u4 := .int .i64 (nn y1)) (u5 := .slice vc1 0 vd1) (u6 := .slice none 0 0) (by omega) p12) (cset7 (W := W8) (b := gv) (u0 := .int .i64 (kd y1)) (u1 := .string (st y1)) (u2 := .int .i64 (dn y1)) (u3 := .int .i64 0) (u4 := .int .i64 (nn y1)) (u5 := .slice vc1 0 vd1) (u6 := .slice none 0 0) (by omega) p13) (cset7 (W := W8) (b := gv) (u0 := .int .i64 (kd y1)) (u1 := .string (st y1)) (u2 := .int .i64 (dn y1)) (u3 := .int .i64 0) (u4 := .int .i64 (nn y1)) (u5 := .slice vc1 0 vd1) (u6 := .slice none 0 0) (by omega) p14) (cset7 (W := W8) (b := gv) (u0 := .int .i64 (kd y1)) (u1 := .string (st y1)) (u2 := .int .i64 (dn y1)) (u3 := .int .i64 0) (u4 := .int .i64 (nn y1)) (u5 := .slice vc1 0 vd1) (u6 := .slice none 0 0) (by omega) p15) (cset7 (W := W8) (b := gv) (u0 := .int .i64 (kd y1)) (u1 := .string (st y1)) (u2 := .int .i64 (dn y1)) (u3 := .int .i64 0) (u4 := .int .i64 (nn y1)) (u5 := .slice vc1 0 vd1) (u6 := .slice none 0 0) (by omega) p16)
  have hT : Tch L gv (fun o => o < 14) W ((((((((((((((W8.setCell ⟨gv, 0, none⟩ (.int .i64 (kd y1))).setCell ⟨gv, 1, none⟩ (.string (st y1))).setCell ⟨gv, 2, none⟩ (.int .i64 (dn y1))).setCell ⟨gv, 3, none⟩ (.int .i64 0)).setCell ⟨gv, 4, none⟩ (.int .i64 (nn y1))).setCell ⟨gv, 5, none⟩ (.slice vc1 0 vd1)).setCell ⟨gv, 6, none⟩ (.slice none 0 0)).setCell ⟨gv, 7, none⟩ (.int .i64 (kd y0))).setCell ⟨gv, 8, none⟩ (.string (st y0))).setCell ⟨gv, 9, none⟩ (.int .i64 (dn y0))).setCell ⟨gv, 10, none⟩ (.int .i64 0)).setCell ⟨gv, 11, none⟩ (.int .i64 (nn y0))).setCell ⟨gv, 12, none⟩ (.slice vc0 0 vd0)).setCell ⟨gv, 13, none⟩ (.slice none 0 0)) := by repeat (first | with_reducible exact (Tch.refl _ _ _ _).below hb | refine Tch.set ?_ (.inr (.inr ⟨rfl, by omega⟩)) _)
  refine h.answer (k := k) (gv := gv) (cv_ := ac) (m := m) (S := fun o => o < 14) hl hc ho hva ⟨Nat.le_trans hT.1 ht.1, fun b o h1 h2 h3 => (ht.2 b o h1 (Nat.lt_of_lt_of_le h2 hT.1) (fun e => e.2)).trans (hT.2 b o h1 h2 h3)⟩ (fun j hj => ?_)
  have dl : gv < ((((((((((((((W8.setCell ⟨gv, 0, none⟩ (.int .i64 (kd y1))).setCell ⟨gv, 1, none⟩ (.string (st y1))).setCell ⟨gv, 2, none⟩ (.int .i64 (dn y1))).setCell ⟨gv, 3, none⟩ (.int .i64 0)).setCell ⟨gv, 4, none⟩ (.int .i64 (nn y1))).setCell ⟨gv, 5, none⟩ (.slice vc1 0 vd1)).setCell ⟨gv, 6, none⟩ (.slice none 0 0)).setCell ⟨gv, 7, none⟩ (.int .i64 (kd y0))).setCell ⟨gv, 8, none⟩ (.string (st y0))).setCell ⟨gv, 9, none⟩ (.int .i64 (dn y0))).setCell ⟨gv, 10, none⟩ (.int .i64 0)).setCell ⟨gv, 11, none⟩ (.int .i64 (nn y0))).setCell ⟨gv, 12, none⟩ (.slice vc0 0 vd0)).setCell ⟨gv, 13, none⟩ (.slice none 0 0)).heap.size := by simpa using d5
  by_cases j0 : j = 0
  · subst j0
    have V3 := V1.tch (L := L) (B := gv) (S := fun o => 7 ≤ o) (w' := ((((((((((((((W8.setCell ⟨gv, 0, none⟩ (.int .i64 (kd y1))).setCell ⟨gv, 1, none⟩ (.string (st y1))).setCell ⟨gv, 2, none⟩ (.int .i64 (dn y1))).setCell ⟨gv, 3, none⟩ (.int .i64 0)).setCell ⟨gv, 4, none⟩ (.int .i64 (nn y1))).setCell ⟨gv, 5, none⟩ (.slice vc1 0 vd1)).setCell ⟨gv, 6, none⟩ (.slice none 0 0)).setCell ⟨gv, 7, none⟩ (.int .i64 (kd y0))).setCell ⟨gv, 8, none⟩ (.string (st y0))).setCell ⟨gv, 9, none⟩ (.int .i64 (dn y0))).setCell ⟨gv, 10, none⟩ (.int .i64 0)).setCell ⟨gv, 11, none⟩ (.int .i64 (nn y0))).setCell ⟨gv, 12, none⟩ (.slice vc0 0 vd0)).setCell ⟨gv, 13, none⟩ (.slice none 0 0))) (by repeat (first | with_reducible exact Tch.refl _ _ _ _ | refine Tch.set ?_ (.inr (.inr ⟨rfl, by omega⟩)) _)) dL (by simpa using d5) (.inr fun i hi => by omega)
    exact .inl ⟨y1, hy1, V3.tch ht dL dl (.inr fun i hi h => h)⟩
  · by_cases j1 : j = 1
    · subst j1
      exact .inl ⟨y0, hy0, VAt.tch (w := ((((((((((((((W8.setCell ⟨gv, 0, none⟩ (.int .i64 (kd y1))).setCell ⟨gv, 1, none⟩ (.string (st y1))).setCell ⟨gv, 2, none⟩ (.int .i64 (dn y1))).setCell ⟨gv, 3, none⟩ (.int .i64 0)).setCell ⟨gv, 4, none⟩ (.int .i64 (nn y1))).setCell ⟨gv, 5, none⟩ (.slice vc1 0 vd1)).setCell ⟨gv, 6, none⟩ (.slice none 0 0)).setCell ⟨gv, 7, none⟩ (.int .i64 (kd y0))).setCell ⟨gv, 8, none⟩ (.string (st y0))).setCell ⟨gv, 9, none⟩ (.int .i64 (dn y0))).setCell ⟨gv, 10, none⟩ (.int .i64 0)).setCell ⟨gv, 11, none⟩ (.int .i64 (nn y0))).setCell ⟨gv, 12, none⟩ (.slice vc0 0 vd0)).setCell ⟨gv, 13, none⟩ (.slice none 0 0))) V2 ht dL dl (.inr fun i hi h => h)⟩
    · exact .inr fun i hi => by omega
theorem Qs.put {L : Nat} {W W8 w' : World} {g cap gv ac m k j y vd : Nat} {vc : Option Addr} {u0 u1 u2 u3 u4 u5 u6 : Value} {qs : List Ask} {os : List (Nat × Value × Value)} {o : Nat × Value × Value} (h : Qs L W g qs os) (hl : qs.length ≤ 1000) (hc : qs.length ≤ cap) (ho : os[k]? = some o) (hva : o.2.1 = .slice (some ⟨gv, 0, none⟩) m ac)
    (dL : L ≤ gv) (hb : Below W.heap.size W W8) (d5 : gv < W8.heap.size) (hy : y ≤ 10) (p0 : W8.cell? ⟨gv, j * 7, none⟩ = some u0) (p1 : W8.cell? ⟨gv, j * 7 + 1, none⟩ = some u1) (p2 : W8.cell? ⟨gv, j * 7 + 2, none⟩ = some u2) (p3 : W8.cell? ⟨gv, j * 7 + 3, none⟩ = some u3) (p4 : W8.cell? ⟨gv, j * 7 + 4, none⟩ = some u4) (p5 : W8.cell? ⟨gv, j * 7 + 5, none⟩ = some u5) (p6 : W8.cell? ⟨gv, j * 7 + 6, none⟩ = some u6) (ht : Tch L gv (fun _ => False) (((((((W8.setCell ⟨gv, j * 7, none⟩ (.int .i64 (kd y))).setCell ⟨gv, j * 7 + 1, none⟩ (.string (st y))).setCell ⟨gv, j * 7 + 2, none⟩ (.int .i64 (dn y))).setCell ⟨gv, j * 7 + 3, none⟩ (.int .i64 0)).setCell ⟨gv, j * 7 + 4, none⟩ (.int .i64 (nn y))).setCell ⟨gv, j * 7 + 5, none⟩ (.slice vc 0 vd)).setCell ⟨gv, j * 7 + 6, none⟩ (.slice none 0 0)) w') : AskSome w' (.slice (some ⟨g, 0, none⟩) qs.length cap) := by
  have V1 := vat_put (w := W8) (b := gv) (o := j * 7) (x := y) (c := vc) (d := vd) p0 p1 p2 p3 p4 p5 p6
  have hT : Tch L gv (fun o => j * 7 ≤ o ∧ o < j * 7 + 7) W (((((((W8.setCell ⟨gv, j * 7, none⟩ (.int .i64 (kd y))).setCell ⟨gv, j * 7 + 1, none⟩ (.string (st y))).setCell ⟨gv, j * 7 + 2, none⟩ (.int .i64 (dn y))).setCell ⟨gv, j * 7 + 3, none⟩ (.int .i64 0)).setCell ⟨gv, j * 7 + 4, none⟩ (.int .i64 (nn y))).setCell ⟨gv, j * 7 + 5, none⟩ (.slice vc 0 vd)).setCell ⟨gv, j * 7 + 6, none⟩ (.slice none 0 0)) := by repeat (first | with_reducible exact (Tch.refl _ _ _ _).below hb | refine Tch.set ?_ (.inr (.inr ⟨rfl, by omega⟩)) _)
  refine h.answer (k := k) (gv := gv) (cv_ := ac) (m := m) (S := fun o => j * 7 ≤ o ∧ o < j * 7 + 7) hl hc ho hva ⟨Nat.le_trans hT.1 ht.1, fun b o h1 h2 h3 => (ht.2 b o h1 (Nat.lt_of_lt_of_le h2 hT.1) (fun e => e.2)).trans (hT.2 b o h1 h2 h3)⟩ (fun i hi => ?_)
  by_cases j0 : i = j
  · subst j0
    exact .inl ⟨y, hy, V1.tch ht dL (by simpa using d5) (.inr fun i hi h => h)⟩
  · exact .inr fun i hi => by omega
theorem mod_still (n m : Int) (w : World) (hm : 0 < m) (hm2 : m ≤ 1000000) : Calls Tryz.prog 57 #[.int .i64 n, .int .i64 m] w fun e w' => e = .returned (.int .i64 (n % m)) ∧ w' = w := (mod_call n m w hm hm2).mono fun _ _ h => ⟨h.1, h.2.symm⟩
/-- What a plan must hold. -/
structure PlanOk (p : PlanS) : Prop where
  next : ∀ a ∈ p.asks, a.2.2 ≠ []
  len : p.asks.length ≤ 12
  ask : ∀ a ∈ p.asks, AskOk a
  d : p.depth ≤ 1000
  l : p.lower ≤ 1000
set_option maxRecDepth 100000 in
set_option maxHeartbeats 1000000 in
theorem Bent_0 (w : World) (v : Value) (p : PlanS) (q0 q1 q2 : Int) (hv : PlanAt w v (planI p)) (ok : PlanOk p) (hn : 0 < p.asks.length) (hc : q0 % 9 = 0) (hq2 : -9223372036854775808 ≤ q2 ∧ q2 ≤ 9223372036854775807) :
    Calls Tryz.prog 25 #[v, .agg #[.int .i64 q0, .int .i64 q1, .int .i64 q2]] w (BentPost w) := by
  have HV := Lib.hid hv; have HC := Lib.hid hc
  obtain ⟨qv, rfl, hq⟩ := hv
  obtain ⟨xa, xc, rfl, _⟩ := hq.1.open
  have HOK := Lib.hid ok
  have hn12 := ok.len
  obtain ⟨n, hnn⟩ : ∃ n, n = p.asks.length := ⟨_, rfl⟩
  rw [← hnn] at hn hn12
  have HN := Lib.hid hnn
  have hdp := ok.d; have hlo := ok.l
  obtain ⟨dp, hdd⟩ : ∃ dp, dp = p.depth := ⟨_, rfl⟩
  obtain ⟨lo, hll⟩ : ∃ lo, lo = p.lower := ⟨_, rfl⟩
  rw [← hdd] at hdp; rw [← hll] at hlo
  have HDD := Lib.hid hdd; have HLL := Lib.hid hll
  clear hc hq ok hnn hdd hll
  go_enter Tryz.func25, Tryz.ntmps25
  go_wp2_with fail
  refine (copyPlan _ _ p (HV.out.mono (below3 _ _ _ _)) HOK.out.next).mono ?_
  rintro e w1 ⟨v1, rfl, hp1, hb1⟩
  obtain ⟨av, os, rfl, ha1⟩ := hp1
  obtain ⟨g, cap, rfl⟩ := own_shape ha1.own (by rw [← HN.out]; exact hn)
  simp only [World.size_alloc] at ha1
  rw [← HN.out] at ha1
  have hqs := ha1.qs HOK.out.ask
  have hgL := hqs.gL
  have hgs := hqs.gs
  have hT4 := (Tri.new ((w.alloc (.cells #[.slice xa (planI p).asks.length xc, .int .i64 (planI p).depth, .int .i64 (planI p).lower] 29)).alloc (.cells #[.int .i64 q0, .int .i64 q1, .int .i64 q2] 49)) (.slice none 0 0) (.int .i64 0) (.int .i64 0) 29).mono hb1
  have hT3 := ((Tri.new (w.alloc (.cells #[.slice xa (planI p).asks.length xc, .int .i64 (planI p).depth, .int .i64 (planI p).lower] 29)) (.int .i64 q0) (.int .i64 q1) (.int .i64 q2) 49).mono (below1 _ _)).mono hb1
  have hz1 := hb1.size
  simp only [World.size_alloc] at hz1 hT4 hT3
  obtain ⟨e0, e1, e2, _, _⟩ := hT3
  have z3 : w.heap.size + 1 < w1.heap.size := by omega
  have z2 : w.heap.size < w1.heap.size := by omega
  have z4 : w.heap.size + 1 + 1 < w1.heap.size := by omega
  have hcap : n ≤ cap := by
    rcases own_cases ha1.own with ⟨h, _⟩ | ⟨_, _, h, _, _, h2, _⟩
    · cases h
    · simp only [Value.slice.injEq] at h; rw [h.2.2, HN.out]; exact h2
  rw [← HN.out, ← HDD.out, ← HLL.out]
  have HB1 := Lib.hid ((below3 _ _ _ _).trans (hb1.mono (by simp; omega)) : Below w.heap.size w w1)
  have HA1 := Lib.hid ha1; have HQS := Lib.hid hqs; have HT4 := Lib.hid hT4
  clear hb1 ha1 hqs hT4 hz1
  have n0 : ((n : Int) == 0) = false := by rw [beq_eq_false_iff_ne]; omega
  go_wp2_with fail
  refine (mod_call q1 n _ (by omega) (by omega)).mono ?_
  rintro e w2 ⟨rfl, rfl⟩
  obtain ⟨k, hk⟩ : ∃ k : Nat, q1 % n = k := ⟨(q1 % n).toNat, by have := Int.emod_nonneg q1 (show (n : Int) ≠ 0 by omega); omega⟩
  have hkn : k < n := by have := Int.emod_lt_of_pos q1 (show (0 : Int) < n by omega); omega
  rw [hk]
  have k0 : (0 : Int) ≤ k := by omega
  have k1 : (k : Int) < n := by omega
  obtain ⟨o, ho⟩ : ∃ o, os[k]? = some o := ⟨_, List.getElem?_eq_getElem (by have := HQS.out.len; rw [← HN.out] at this; omega)⟩
  obtain ⟨q, hqk⟩ : ∃ q, p.asks[k]? = some q := ⟨_, List.getElem?_eq_getElem (by rw [← HN.out]; omega)⟩
  have ha := HQS.out.at_ k o q ho hqk
  obtain ⟨oi, va, vn⟩ := o
  obtain ⟨xs, hxs⟩ : ∃ xs, xs = q.2.1 := ⟨_, rfl⟩
  obtain ⟨ns, hns⟩ : ∃ ns, ns = q.2.2 := ⟨_, rfl⟩
  rw [← hxs, ← hns] at ha
  obtain ⟨aa, ac, rfl, hac⟩ := ha.v.1.open
  obtain ⟨na, nc, rfl, hnc⟩ := ha.n.1.open
  have hxl := ha.v.2.1
  have hnl := ha.n.2.1
  have hnp : 0 < ns.length := by rw [hns]; exact List.length_pos_iff.2 (HOK.out.next q (List.mem_of_getElem? hqk))
  have hn12' : ns.length ≤ 1000 := by rw [hns]; exact (HOK.out.ask q (List.mem_of_getElem? hqk)).n.1
  have c0 := ha.c0; have c1 := ha.c1; have c2 := ha.c2
  simp only at c0 c1 c2
  have HXS := Lib.hid hxs; have HNS := Lib.hid hns
  have HA := Lib.hid ha; have HO := Lib.hid ho; have HQK := Lib.hid hqk
  clear hk ha ho hqk hxs hns
  go_wp2_with fail
  refine (mod_call q0 9 _ (by omega) (by omega)).mono ?_
  rintro e w2 ⟨rfl, rfl⟩
  rw [HC.out]
  obtain ⟨W7, hW7⟩ : ∃ W7, W7 = (w1.alloc (.cells #[.slice (some ⟨g, 0, none⟩) n cap, .int .i64 dp, .int .i64 lo] 29)).alloc (.cells #[.int .i64 oi, .slice aa xs.length ac, .slice na ns.length nc] 59) := ⟨_, rfl⟩
  rw [← hW7]
  have hb7 : Below w1.heap.size w1 W7 := by rw [hW7]; exact below2 _ _ _
  have hT5 := (Tri.new w1 (.slice (some ⟨g, 0, none⟩) n cap) (.int .i64 dp) (.int .i64 lo) 29).mono (below1 _ (.cells #[.int .i64 oi, .slice aa xs.length ac, .slice na ns.length nc] 59))
  have hT7 := Tri.new (w1.alloc (.cells #[.slice (some ⟨g, 0, none⟩) n cap, .int .i64 dp, .int .i64 lo] 29)) (.int .i64 oi) (.slice aa xs.length ac) (.slice na ns.length nc) 59
  rw [← hW7] at hT5 hT7
  simp only [World.size_alloc] at hT7
  have hT4 := HT4.out.mono hb7
  have f0 := (olds hb7 _ _ z3).trans e0
  have f1 := (olds hb7 _ _ z3).trans e1
  have f2 := (olds hb7 _ _ z3).trans e2
  have c0 := (olds hb7 _ _ hgs).trans c0
  have c1 := (olds hb7 _ _ hgs).trans c1
  have c2 := (olds hb7 _ _ hgs).trans c2
  have hA7 := HA1.out.below hb7
  have cf : ∀ o, W7.frozen? ⟨g, o, none⟩ = false := by have h := hA7.own; rw [← HN.out] at h; exact fun o => h.frozenAt o
  obtain ⟨a0, a1, a2, af, al⟩ := hT5
  obtain ⟨b0, b1, b2, bf, bl⟩ := hT7
  obtain ⟨t0, t1, t2, tf, tl⟩ := hT4
  have gl7 := Nat.lt_of_lt_of_le hgs hb7.size
  have f3 := Nat.lt_of_lt_of_le z3 hb7.size
  have HB7 := Lib.hid (bthen HB1.out hb7)
  have HA7 := Lib.hid hA7; have HW7 := Lib.hid hb7
  clear hW7 hb7 e0 e1 e2 hA7
  obtain ⟨m, hm⟩ : ∃ m, m = q2 % 3 := ⟨_, rfl⟩
  have hm0 : 0 ≤ m := by rw [hm]; exact Int.emod_nonneg q2 (by omega)
  have hm3 : m < 3 := by rw [hm]; exact Int.emod_lt_of_pos q2 (by omega)
  have HM := Lib.hid hm
  clear hm
  go_wp2_with fail
  refine wp_region_still_tail 8 (by kernel_rfl) (by kernel_rfl) ?_
  simp only [List.take_succ_cons, List.take_zero, List.drop_succ_cons, List.drop_zero]
  change wpStill _ _ W7.drew _ _ _
  repeat still_step
  refine wpStill_step (fun K hK => ?_)
  go_simp
  refine ⟨_, mod_still q2 3 _ (by omega) (by omega), hK _ ?_⟩
  clear hK K
  rw [← HM.out]
  repeat still_step
  refine wpStill_nil ?_
  go_wp2
  have HB7o := HB7.out
  refine bodyPost_ret (v := .agg #[.slice (some ⟨g, 0, none⟩) n cap, .int .i64 ((dp : Int) + m - 1), .int .i64 (lo)]) ?_ rfl ⟨_, rfl, PlanSome.mk ?_, (by repeat (first | with_reducible exact Below.refl _ _ | with_reducible assumption | with_reducible refine Below.drew ?_ | with_reducible refine Below.alloc ?_ (by first | omega | (simp; done) | (simp; omega)) _ | with_reducible refine Below.setCell ?_ (by first | omega | (simp; done) | (simp; omega)) _))⟩
  · simp [results, Tryz.results25, go_sem, t0, t1, t2, tf, tl]
  · have hq := HQS.out
    rw [HN.out] at hcap hn12 ⊢
    exact hq.same (B := 0) (by omega) hcap (by repeat (first | with_reducible exact (Tch.refl _ _ _ _).below HW7.out | with_reducible refine Tch.drew ?_ | refine Tch.set ?_ (by first | exact .inl (by omega) | exact .inr (.inl (by omega)) | exact .inr (.inr ⟨rfl, by omega⟩)) _))
set_option maxRecDepth 100000 in
set_option maxHeartbeats 1000000 in
theorem Bent_1 (w : World) (v : Value) (p : PlanS) (q0 q1 q2 : Int) (hv : PlanAt w v (planI p)) (ok : PlanOk p) (hn : 0 < p.asks.length) (hc : q0 % 9 = 1) (hq2 : -9223372036854775808 ≤ q2 ∧ q2 ≤ 9223372036854775807) :
    Calls Tryz.prog 25 #[v, .agg #[.int .i64 q0, .int .i64 q1, .int .i64 q2]] w (BentPost w) := by
  have HV := Lib.hid hv; have HC := Lib.hid hc
  obtain ⟨qv, rfl, hq⟩ := hv
  obtain ⟨xa, xc, rfl, _⟩ := hq.1.open
  have HOK := Lib.hid ok
  have hn12 := ok.len
  obtain ⟨n, hnn⟩ : ∃ n, n = p.asks.length := ⟨_, rfl⟩
  rw [← hnn] at hn hn12
  have HN := Lib.hid hnn
  have hdp := ok.d; have hlo := ok.l
  obtain ⟨dp, hdd⟩ : ∃ dp, dp = p.depth := ⟨_, rfl⟩
  obtain ⟨lo, hll⟩ : ∃ lo, lo = p.lower := ⟨_, rfl⟩
  rw [← hdd] at hdp; rw [← hll] at hlo
  have HDD := Lib.hid hdd; have HLL := Lib.hid hll
  clear hc hq ok hnn hdd hll
  go_enter Tryz.func25, Tryz.ntmps25
  go_wp2_with fail
  refine (copyPlan _ _ p (HV.out.mono (below3 _ _ _ _)) HOK.out.next).mono ?_
  rintro e w1 ⟨v1, rfl, hp1, hb1⟩
  obtain ⟨av, os, rfl, ha1⟩ := hp1
  obtain ⟨g, cap, rfl⟩ := own_shape ha1.own (by rw [← HN.out]; exact hn)
  simp only [World.size_alloc] at ha1
  rw [← HN.out] at ha1
  have hqs := ha1.qs HOK.out.ask
  have hgL := hqs.gL
  have hgs := hqs.gs
  have hT4 := (Tri.new ((w.alloc (.cells #[.slice xa (planI p).asks.length xc, .int .i64 (planI p).depth, .int .i64 (planI p).lower] 29)).alloc (.cells #[.int .i64 q0, .int .i64 q1, .int .i64 q2] 49)) (.slice none 0 0) (.int .i64 0) (.int .i64 0) 29).mono hb1
  have hT3 := ((Tri.new (w.alloc (.cells #[.slice xa (planI p).asks.length xc, .int .i64 (planI p).depth, .int .i64 (planI p).lower] 29)) (.int .i64 q0) (.int .i64 q1) (.int .i64 q2) 49).mono (below1 _ _)).mono hb1
  have hz1 := hb1.size
  simp only [World.size_alloc] at hz1 hT4 hT3
  obtain ⟨e0, e1, e2, _, _⟩ := hT3
  have z3 : w.heap.size + 1 < w1.heap.size := by omega
  have z2 : w.heap.size < w1.heap.size := by omega
  have z4 : w.heap.size + 1 + 1 < w1.heap.size := by omega
  have hcap : n ≤ cap := by
    rcases own_cases ha1.own with ⟨h, _⟩ | ⟨_, _, h, _, _, h2, _⟩
    · cases h
    · simp only [Value.slice.injEq] at h; rw [h.2.2, HN.out]; exact h2
  rw [← HN.out, ← HDD.out, ← HLL.out]
  have HB1 := Lib.hid ((below3 _ _ _ _).trans (hb1.mono (by simp; omega)) : Below w.heap.size w w1)
  have HA1 := Lib.hid ha1; have HQS := Lib.hid hqs; have HT4 := Lib.hid hT4
  clear hb1 ha1 hqs hT4 hz1
  have n0 : ((n : Int) == 0) = false := by rw [beq_eq_false_iff_ne]; omega
  go_wp2_with fail
  refine (mod_call q1 n _ (by omega) (by omega)).mono ?_
  rintro e w2 ⟨rfl, rfl⟩
  obtain ⟨k, hk⟩ : ∃ k : Nat, q1 % n = k := ⟨(q1 % n).toNat, by have := Int.emod_nonneg q1 (show (n : Int) ≠ 0 by omega); omega⟩
  have hkn : k < n := by have := Int.emod_lt_of_pos q1 (show (0 : Int) < n by omega); omega
  rw [hk]
  have k0 : (0 : Int) ≤ k := by omega
  have k1 : (k : Int) < n := by omega
  obtain ⟨o, ho⟩ : ∃ o, os[k]? = some o := ⟨_, List.getElem?_eq_getElem (by have := HQS.out.len; rw [← HN.out] at this; omega)⟩
  obtain ⟨q, hqk⟩ : ∃ q, p.asks[k]? = some q := ⟨_, List.getElem?_eq_getElem (by rw [← HN.out]; omega)⟩
  have ha := HQS.out.at_ k o q ho hqk
  obtain ⟨oi, va, vn⟩ := o
  obtain ⟨xs, hxs⟩ : ∃ xs, xs = q.2.1 := ⟨_, rfl⟩
  obtain ⟨ns, hns⟩ : ∃ ns, ns = q.2.2 := ⟨_, rfl⟩
  rw [← hxs, ← hns] at ha
  obtain ⟨aa, ac, rfl, hac⟩ := ha.v.1.open
  obtain ⟨na, nc, rfl, hnc⟩ := ha.n.1.open
  have hxl := ha.v.2.1
  have hnl := ha.n.2.1
  have hnp : 0 < ns.length := by rw [hns]; exact List.length_pos_iff.2 (HOK.out.next q (List.mem_of_getElem? hqk))
  have hn12' : ns.length ≤ 1000 := by rw [hns]; exact (HOK.out.ask q (List.mem_of_getElem? hqk)).n.1
  have c0 := ha.c0; have c1 := ha.c1; have c2 := ha.c2
  simp only at c0 c1 c2
  have HXS := Lib.hid hxs; have HNS := Lib.hid hns
  have HA := Lib.hid ha; have HO := Lib.hid ho; have HQK := Lib.hid hqk
  clear hk ha ho hqk hxs hns
  go_wp2_with fail
  refine (mod_call q0 9 _ (by omega) (by omega)).mono ?_
  rintro e w2 ⟨rfl, rfl⟩
  rw [HC.out]
  obtain ⟨W7, hW7⟩ : ∃ W7, W7 = (w1.alloc (.cells #[.slice (some ⟨g, 0, none⟩) n cap, .int .i64 dp, .int .i64 lo] 29)).alloc (.cells #[.int .i64 oi, .slice aa xs.length ac, .slice na ns.length nc] 59) := ⟨_, rfl⟩
  rw [← hW7]
  have hb7 : Below w1.heap.size w1 W7 := by rw [hW7]; exact below2 _ _ _
  have hT5 := (Tri.new w1 (.slice (some ⟨g, 0, none⟩) n cap) (.int .i64 dp) (.int .i64 lo) 29).mono (below1 _ (.cells #[.int .i64 oi, .slice aa xs.length ac, .slice na ns.length nc] 59))
  have hT7 := Tri.new (w1.alloc (.cells #[.slice (some ⟨g, 0, none⟩) n cap, .int .i64 dp, .int .i64 lo] 29)) (.int .i64 oi) (.slice aa xs.length ac) (.slice na ns.length nc) 59
  rw [← hW7] at hT5 hT7
  simp only [World.size_alloc] at hT7
  have hT4 := HT4.out.mono hb7
  have f0 := (olds hb7 _ _ z3).trans e0
  have f1 := (olds hb7 _ _ z3).trans e1
  have f2 := (olds hb7 _ _ z3).trans e2
  have c0 := (olds hb7 _ _ hgs).trans c0
  have c1 := (olds hb7 _ _ hgs).trans c1
  have c2 := (olds hb7 _ _ hgs).trans c2
  have hA7 := HA1.out.below hb7
  have cf : ∀ o, W7.frozen? ⟨g, o, none⟩ = false := by have h := hA7.own; rw [← HN.out] at h; exact fun o => h.frozenAt o
  obtain ⟨a0, a1, a2, af, al⟩ := hT5
  obtain ⟨b0, b1, b2, bf, bl⟩ := hT7
  obtain ⟨t0, t1, t2, tf, tl⟩ := hT4
  have gl7 := Nat.lt_of_lt_of_le hgs hb7.size
  have f3 := Nat.lt_of_lt_of_le z3 hb7.size
  have HB7 := Lib.hid (bthen HB1.out hb7)
  have HA7 := Lib.hid hA7; have HW7 := Lib.hid hb7
  clear hW7 hb7 e0 e1 e2 hA7
  obtain ⟨m, hm⟩ : ∃ m, m = q2 % 3 := ⟨_, rfl⟩
  have hm0 : 0 ≤ m := by rw [hm]; exact Int.emod_nonneg q2 (by omega)
  have hm3 : m < 3 := by rw [hm]; exact Int.emod_lt_of_pos q2 (by omega)
  have HM := Lib.hid hm
  clear hm
  go_wp2_with fail
  refine wp_region_still_tail 8 (by kernel_rfl) (by kernel_rfl) ?_
  simp only [List.take_succ_cons, List.take_zero, List.drop_succ_cons, List.drop_zero]
  change wpStill _ _ W7.drew _ _ _
  repeat still_step
  refine wpStill_step (fun K hK => ?_)
  go_simp
  refine ⟨_, mod_still q2 3 _ (by omega) (by omega), hK _ ?_⟩
  clear hK K
  rw [← HM.out]
  repeat still_step
  refine wpStill_nil ?_
  go_wp2
  have HB7o := HB7.out
  refine bodyPost_ret (v := .agg #[.slice (some ⟨g, 0, none⟩) n cap, .int .i64 (dp), .int .i64 ((lo : Int) + m - 1)]) ?_ rfl ⟨_, rfl, PlanSome.mk ?_, (by repeat (first | with_reducible exact Below.refl _ _ | with_reducible assumption | with_reducible refine Below.drew ?_ | with_reducible refine Below.alloc ?_ (by first | omega | (simp; done) | (simp; omega)) _ | with_reducible refine Below.setCell ?_ (by first | omega | (simp; done) | (simp; omega)) _))⟩
  · simp [results, Tryz.results25, go_sem, t0, t1, t2, tf, tl]
  · have hq := HQS.out
    rw [HN.out] at hcap hn12 ⊢
    exact hq.same (B := 0) (by omega) hcap (by repeat (first | with_reducible exact (Tch.refl _ _ _ _).below HW7.out | with_reducible refine Tch.drew ?_ | refine Tch.set ?_ (by first | exact .inl (by omega) | exact .inr (.inl (by omega)) | exact .inr (.inr ⟨rfl, by omega⟩)) _))
set_option maxRecDepth 100000 in
set_option maxHeartbeats 1000000 in
theorem Bent_2 (w : World) (v : Value) (p : PlanS) (q0 q1 q2 : Int) (hv : PlanAt w v (planI p)) (ok : PlanOk p) (hn : 0 < p.asks.length) (hc : q0 % 9 = 2) (hq2 : -9223372036854775808 ≤ q2 ∧ q2 ≤ 9223372036854775807) :
    Calls Tryz.prog 25 #[v, .agg #[.int .i64 q0, .int .i64 q1, .int .i64 q2]] w (BentPost w) := by
  have HV := Lib.hid hv; have HC := Lib.hid hc
  obtain ⟨qv, rfl, hq⟩ := hv
  obtain ⟨xa, xc, rfl, _⟩ := hq.1.open
  have HOK := Lib.hid ok
  have hn12 := ok.len
  obtain ⟨n, hnn⟩ : ∃ n, n = p.asks.length := ⟨_, rfl⟩
  rw [← hnn] at hn hn12
  have HN := Lib.hid hnn
  have hdp := ok.d; have hlo := ok.l
  obtain ⟨dp, hdd⟩ : ∃ dp, dp = p.depth := ⟨_, rfl⟩
  obtain ⟨lo, hll⟩ : ∃ lo, lo = p.lower := ⟨_, rfl⟩
  rw [← hdd] at hdp; rw [← hll] at hlo
  have HDD := Lib.hid hdd; have HLL := Lib.hid hll
  clear hc hq ok hnn hdd hll
  go_enter Tryz.func25, Tryz.ntmps25
  go_wp2_with fail
  refine (copyPlan _ _ p (HV.out.mono (below3 _ _ _ _)) HOK.out.next).mono ?_
  rintro e w1 ⟨v1, rfl, hp1, hb1⟩
  obtain ⟨av, os, rfl, ha1⟩ := hp1
  obtain ⟨g, cap, rfl⟩ := own_shape ha1.own (by rw [← HN.out]; exact hn)
  simp only [World.size_alloc] at ha1
  rw [← HN.out] at ha1
  have hqs := ha1.qs HOK.out.ask
  have hgL := hqs.gL
  have hgs := hqs.gs
  have hT4 := (Tri.new ((w.alloc (.cells #[.slice xa (planI p).asks.length xc, .int .i64 (planI p).depth, .int .i64 (planI p).lower] 29)).alloc (.cells #[.int .i64 q0, .int .i64 q1, .int .i64 q2] 49)) (.slice none 0 0) (.int .i64 0) (.int .i64 0) 29).mono hb1
  have hT3 := ((Tri.new (w.alloc (.cells #[.slice xa (planI p).asks.length xc, .int .i64 (planI p).depth, .int .i64 (planI p).lower] 29)) (.int .i64 q0) (.int .i64 q1) (.int .i64 q2) 49).mono (below1 _ _)).mono hb1
  have hz1 := hb1.size
  simp only [World.size_alloc] at hz1 hT4 hT3
  obtain ⟨e0, e1, e2, _, _⟩ := hT3
  have z3 : w.heap.size + 1 < w1.heap.size := by omega
  have z2 : w.heap.size < w1.heap.size := by omega
  have z4 : w.heap.size + 1 + 1 < w1.heap.size := by omega
  have hcap : n ≤ cap := by
    rcases own_cases ha1.own with ⟨h, _⟩ | ⟨_, _, h, _, _, h2, _⟩
    · cases h
    · simp only [Value.slice.injEq] at h; rw [h.2.2, HN.out]; exact h2
  rw [← HN.out, ← HDD.out, ← HLL.out]
  have HB1 := Lib.hid ((below3 _ _ _ _).trans (hb1.mono (by simp; omega)) : Below w.heap.size w w1)
  have HA1 := Lib.hid ha1; have HQS := Lib.hid hqs; have HT4 := Lib.hid hT4
  clear hb1 ha1 hqs hT4 hz1
  have n0 : ((n : Int) == 0) = false := by rw [beq_eq_false_iff_ne]; omega
  go_wp2_with fail
  refine (mod_call q1 n _ (by omega) (by omega)).mono ?_
  rintro e w2 ⟨rfl, rfl⟩
  obtain ⟨k, hk⟩ : ∃ k : Nat, q1 % n = k := ⟨(q1 % n).toNat, by have := Int.emod_nonneg q1 (show (n : Int) ≠ 0 by omega); omega⟩
  have hkn : k < n := by have := Int.emod_lt_of_pos q1 (show (0 : Int) < n by omega); omega
  rw [hk]
  have k0 : (0 : Int) ≤ k := by omega
  have k1 : (k : Int) < n := by omega
  obtain ⟨o, ho⟩ : ∃ o, os[k]? = some o := ⟨_, List.getElem?_eq_getElem (by have := HQS.out.len; rw [← HN.out] at this; omega)⟩
  obtain ⟨q, hqk⟩ : ∃ q, p.asks[k]? = some q := ⟨_, List.getElem?_eq_getElem (by rw [← HN.out]; omega)⟩
  have ha := HQS.out.at_ k o q ho hqk
  obtain ⟨oi, va, vn⟩ := o
  obtain ⟨xs, hxs⟩ : ∃ xs, xs = q.2.1 := ⟨_, rfl⟩
  obtain ⟨ns, hns⟩ : ∃ ns, ns = q.2.2 := ⟨_, rfl⟩
  rw [← hxs, ← hns] at ha
  obtain ⟨aa, ac, rfl, hac⟩ := ha.v.1.open
  obtain ⟨na, nc, rfl, hnc⟩ := ha.n.1.open
  have hxl := ha.v.2.1
  have hnl := ha.n.2.1
  have hnp : 0 < ns.length := by rw [hns]; exact List.length_pos_iff.2 (HOK.out.next q (List.mem_of_getElem? hqk))
  have hn12' : ns.length ≤ 1000 := by rw [hns]; exact (HOK.out.ask q (List.mem_of_getElem? hqk)).n.1
  have c0 := ha.c0; have c1 := ha.c1; have c2 := ha.c2
  simp only at c0 c1 c2
  have HXS := Lib.hid hxs; have HNS := Lib.hid hns
  have HA := Lib.hid ha; have HO := Lib.hid ho; have HQK := Lib.hid hqk
  clear hk ha ho hqk hxs hns
  go_wp2_with fail
  refine (mod_call q0 9 _ (by omega) (by omega)).mono ?_
  rintro e w2 ⟨rfl, rfl⟩
  rw [HC.out]
  obtain ⟨W7, hW7⟩ : ∃ W7, W7 = (w1.alloc (.cells #[.slice (some ⟨g, 0, none⟩) n cap, .int .i64 dp, .int .i64 lo] 29)).alloc (.cells #[.int .i64 oi, .slice aa xs.length ac, .slice na ns.length nc] 59) := ⟨_, rfl⟩
  rw [← hW7]
  have hb7 : Below w1.heap.size w1 W7 := by rw [hW7]; exact below2 _ _ _
  have hT5 := (Tri.new w1 (.slice (some ⟨g, 0, none⟩) n cap) (.int .i64 dp) (.int .i64 lo) 29).mono (below1 _ (.cells #[.int .i64 oi, .slice aa xs.length ac, .slice na ns.length nc] 59))
  have hT7 := Tri.new (w1.alloc (.cells #[.slice (some ⟨g, 0, none⟩) n cap, .int .i64 dp, .int .i64 lo] 29)) (.int .i64 oi) (.slice aa xs.length ac) (.slice na ns.length nc) 59
  rw [← hW7] at hT5 hT7
  simp only [World.size_alloc] at hT7
  have hT4 := HT4.out.mono hb7
  have f0 := (olds hb7 _ _ z3).trans e0
  have f1 := (olds hb7 _ _ z3).trans e1
  have f2 := (olds hb7 _ _ z3).trans e2
  have c0 := (olds hb7 _ _ hgs).trans c0
  have c1 := (olds hb7 _ _ hgs).trans c1
  have c2 := (olds hb7 _ _ hgs).trans c2
  have hA7 := HA1.out.below hb7
  have cf : ∀ o, W7.frozen? ⟨g, o, none⟩ = false := by have h := hA7.own; rw [← HN.out] at h; exact fun o => h.frozenAt o
  obtain ⟨a0, a1, a2, af, al⟩ := hT5
  obtain ⟨b0, b1, b2, bf, bl⟩ := hT7
  obtain ⟨t0, t1, t2, tf, tl⟩ := hT4
  have gl7 := Nat.lt_of_lt_of_le hgs hb7.size
  have f3 := Nat.lt_of_lt_of_le z3 hb7.size
  have HB7 := Lib.hid (bthen HB1.out hb7)
  have HA7 := Lib.hid hA7; have HW7 := Lib.hid hb7
  clear hW7 hb7 e0 e1 e2 hA7
  go_wp2
  have HB7o := HB7.out
  refine bodyPost_ret (v := .agg #[.slice (some ⟨g, 0, none⟩) n cap, .int .i64 (dp), .int .i64 (lo)]) ?_ rfl ⟨_, rfl, PlanSome.mk ?_, (by repeat (first | with_reducible exact Below.refl _ _ | with_reducible assumption | with_reducible refine Below.drew ?_ | with_reducible refine Below.alloc ?_ (by first | omega | (simp; done) | (simp; omega)) _ | with_reducible refine Below.setCell ?_ (by first | omega | (simp; done) | (simp; omega)) _))⟩
  · simp [results, Tryz.results25, go_sem, t0, t1, t2, tf, tl]
  · have hq := HQS.out
    rw [HN.out] at hcap hn12 ⊢
    exact hq.input (k := k) (z := q2) (by omega) hcap (by repeat (first | with_reducible exact (Tch.refl _ _ _ _).below HW7.out | with_reducible refine Tch.drew ?_ | refine Tch.set ?_ (by first | exact .inl (by omega) | exact .inr (.inl (by omega)) | exact .inr (.inr ⟨rfl, by omega⟩)) _)) (by rw [cset_block (by omega), cset_block (by omega), cset_block (by omega)]; exact cset_same c0) hq2
set_option maxRecDepth 100000 in
set_option maxHeartbeats 1000000 in
theorem Bent_3 (w : World) (v : Value) (p : PlanS) (q0 q1 q2 : Int) (hv : PlanAt w v (planI p)) (ok : PlanOk p) (hn : 0 < p.asks.length) (hc : q0 % 9 = 3) (hq2 : -9223372036854775808 ≤ q2 ∧ q2 ≤ 9223372036854775807) :
    Calls Tryz.prog 25 #[v, .agg #[.int .i64 q0, .int .i64 q1, .int .i64 q2]] w (BentPost w) := by
  have HV := Lib.hid hv; have HC := Lib.hid hc
  obtain ⟨qv, rfl, hq⟩ := hv
  obtain ⟨xa, xc, rfl, _⟩ := hq.1.open
  have HOK := Lib.hid ok
  have hn12 := ok.len
  obtain ⟨n, hnn⟩ : ∃ n, n = p.asks.length := ⟨_, rfl⟩
  rw [← hnn] at hn hn12
  have HN := Lib.hid hnn
  have hdp := ok.d; have hlo := ok.l
  obtain ⟨dp, hdd⟩ : ∃ dp, dp = p.depth := ⟨_, rfl⟩
  obtain ⟨lo, hll⟩ : ∃ lo, lo = p.lower := ⟨_, rfl⟩
  rw [← hdd] at hdp; rw [← hll] at hlo
  have HDD := Lib.hid hdd; have HLL := Lib.hid hll
  clear hc hq ok hnn hdd hll
  go_enter Tryz.func25, Tryz.ntmps25
  go_wp2_with fail
  refine (copyPlan _ _ p (HV.out.mono (below3 _ _ _ _)) HOK.out.next).mono ?_
  rintro e w1 ⟨v1, rfl, hp1, hb1⟩
  obtain ⟨av, os, rfl, ha1⟩ := hp1
  obtain ⟨g, cap, rfl⟩ := own_shape ha1.own (by rw [← HN.out]; exact hn)
  simp only [World.size_alloc] at ha1
  rw [← HN.out] at ha1
  have hqs := ha1.qs HOK.out.ask
  have hgL := hqs.gL
  have hgs := hqs.gs
  have hT4 := (Tri.new ((w.alloc (.cells #[.slice xa (planI p).asks.length xc, .int .i64 (planI p).depth, .int .i64 (planI p).lower] 29)).alloc (.cells #[.int .i64 q0, .int .i64 q1, .int .i64 q2] 49)) (.slice none 0 0) (.int .i64 0) (.int .i64 0) 29).mono hb1
  have hT3 := ((Tri.new (w.alloc (.cells #[.slice xa (planI p).asks.length xc, .int .i64 (planI p).depth, .int .i64 (planI p).lower] 29)) (.int .i64 q0) (.int .i64 q1) (.int .i64 q2) 49).mono (below1 _ _)).mono hb1
  have hz1 := hb1.size
  simp only [World.size_alloc] at hz1 hT4 hT3
  obtain ⟨e0, e1, e2, _, _⟩ := hT3
  have z3 : w.heap.size + 1 < w1.heap.size := by omega
  have z2 : w.heap.size < w1.heap.size := by omega
  have z4 : w.heap.size + 1 + 1 < w1.heap.size := by omega
  have hcap : n ≤ cap := by
    rcases own_cases ha1.own with ⟨h, _⟩ | ⟨_, _, h, _, _, h2, _⟩
    · cases h
    · simp only [Value.slice.injEq] at h; rw [h.2.2, HN.out]; exact h2
  rw [← HN.out, ← HDD.out, ← HLL.out]
  have HB1 := Lib.hid ((below3 _ _ _ _).trans (hb1.mono (by simp; omega)) : Below w.heap.size w w1)
  have HA1 := Lib.hid ha1; have HQS := Lib.hid hqs; have HT4 := Lib.hid hT4
  clear hb1 ha1 hqs hT4 hz1
  have n0 : ((n : Int) == 0) = false := by rw [beq_eq_false_iff_ne]; omega
  go_wp2_with fail
  refine (mod_call q1 n _ (by omega) (by omega)).mono ?_
  rintro e w2 ⟨rfl, rfl⟩
  obtain ⟨k, hk⟩ : ∃ k : Nat, q1 % n = k := ⟨(q1 % n).toNat, by have := Int.emod_nonneg q1 (show (n : Int) ≠ 0 by omega); omega⟩
  have hkn : k < n := by have := Int.emod_lt_of_pos q1 (show (0 : Int) < n by omega); omega
  rw [hk]
  have k0 : (0 : Int) ≤ k := by omega
  have k1 : (k : Int) < n := by omega
  obtain ⟨o, ho⟩ : ∃ o, os[k]? = some o := ⟨_, List.getElem?_eq_getElem (by have := HQS.out.len; rw [← HN.out] at this; omega)⟩
  obtain ⟨q, hqk⟩ : ∃ q, p.asks[k]? = some q := ⟨_, List.getElem?_eq_getElem (by rw [← HN.out]; omega)⟩
  have ha := HQS.out.at_ k o q ho hqk
  obtain ⟨oi, va, vn⟩ := o
  obtain ⟨xs, hxs⟩ : ∃ xs, xs = q.2.1 := ⟨_, rfl⟩
  obtain ⟨ns, hns⟩ : ∃ ns, ns = q.2.2 := ⟨_, rfl⟩
  rw [← hxs, ← hns] at ha
  obtain ⟨aa, ac, rfl, hac⟩ := ha.v.1.open
  obtain ⟨na, nc, rfl, hnc⟩ := ha.n.1.open
  have hxl := ha.v.2.1
  have hnl := ha.n.2.1
  have hnp : 0 < ns.length := by rw [hns]; exact List.length_pos_iff.2 (HOK.out.next q (List.mem_of_getElem? hqk))
  have hn12' : ns.length ≤ 1000 := by rw [hns]; exact (HOK.out.ask q (List.mem_of_getElem? hqk)).n.1
  have c0 := ha.c0; have c1 := ha.c1; have c2 := ha.c2
  simp only at c0 c1 c2
  have HXS := Lib.hid hxs; have HNS := Lib.hid hns
  have HA := Lib.hid ha; have HO := Lib.hid ho; have HQK := Lib.hid hqk
  clear hk ha ho hqk hxs hns
  go_wp2_with fail
  refine (mod_call q0 9 _ (by omega) (by omega)).mono ?_
  rintro e w2 ⟨rfl, rfl⟩
  rw [HC.out]
  obtain ⟨W7, hW7⟩ : ∃ W7, W7 = (w1.alloc (.cells #[.slice (some ⟨g, 0, none⟩) n cap, .int .i64 dp, .int .i64 lo] 29)).alloc (.cells #[.int .i64 oi, .slice aa xs.length ac, .slice na ns.length nc] 59) := ⟨_, rfl⟩
  rw [← hW7]
  have hb7 : Below w1.heap.size w1 W7 := by rw [hW7]; exact below2 _ _ _
  have hT5 := (Tri.new w1 (.slice (some ⟨g, 0, none⟩) n cap) (.int .i64 dp) (.int .i64 lo) 29).mono (below1 _ (.cells #[.int .i64 oi, .slice aa xs.length ac, .slice na ns.length nc] 59))
  have hT7 := Tri.new (w1.alloc (.cells #[.slice (some ⟨g, 0, none⟩) n cap, .int .i64 dp, .int .i64 lo] 29)) (.int .i64 oi) (.slice aa xs.length ac) (.slice na ns.length nc) 59
  rw [← hW7] at hT5 hT7
  simp only [World.size_alloc] at hT7
  have hT4 := HT4.out.mono hb7
  have f0 := (olds hb7 _ _ z3).trans e0
  have f1 := (olds hb7 _ _ z3).trans e1
  have f2 := (olds hb7 _ _ z3).trans e2
  have c0 := (olds hb7 _ _ hgs).trans c0
  have c1 := (olds hb7 _ _ hgs).trans c1
  have c2 := (olds hb7 _ _ hgs).trans c2
  have hA7 := HA1.out.below hb7
  have cf : ∀ o, W7.frozen? ⟨g, o, none⟩ = false := by have h := hA7.own; rw [← HN.out] at h; exact fun o => h.frozenAt o
  obtain ⟨a0, a1, a2, af, al⟩ := hT5
  obtain ⟨b0, b1, b2, bf, bl⟩ := hT7
  obtain ⟨t0, t1, t2, tf, tl⟩ := hT4
  have gl7 := Nat.lt_of_lt_of_le hgs hb7.size
  have f3 := Nat.lt_of_lt_of_le z3 hb7.size
  have HB7 := Lib.hid (bthen HB1.out hb7)
  have HA7 := Lib.hid hA7; have HW7 := Lib.hid hb7
  clear hW7 hb7 e0 e1 e2 hA7
  by_cases hx0 : xs.length = 0
  · have x0 : ¬ (0 : Int) < xs.length := by omega
    go_wp2
    have HB7o := HB7.out
    refine bodyPost_ret (v := .agg #[.slice (some ⟨g, 0, none⟩) n cap, .int .i64 (dp), .int .i64 (lo)]) ?_ rfl ⟨_, rfl, PlanSome.mk ?_, (by repeat (first | with_reducible exact Below.refl _ _ | with_reducible assumption | with_reducible refine Below.drew ?_ | with_reducible refine Below.alloc ?_ (by first | omega | (simp; done) | (simp; omega)) _ | with_reducible refine Below.setCell ?_ (by first | omega | (simp; done) | (simp; omega)) _))⟩
    · simp [results, Tryz.results25, go_sem, t0, t1, t2, tf, tl]
    · have hq := HQS.out
      rw [HN.out] at hcap hn12 ⊢
      exact hq.same (B := 0) (by omega) hcap (by repeat (first | with_reducible exact (Tch.refl _ _ _ _).below HW7.out | with_reducible refine Tch.drew ?_ | refine Tch.set ?_ (by first | exact .inl (by omega) | exact .inr (.inl (by omega)) | exact .inr (.inr ⟨rfl, by omega⟩)) _))
  · have x0 : (0 : Int) < xs.length := by omega
    obtain ⟨_, ⟨zs, hzs, rowa1⟩, _⟩ := HA1.out.inn k _ q HO.out HQK.out
    obtain ⟨_, ⟨zs', hzs', rowa⟩, _⟩ := HA7.out.inn k _ q HO.out HQK.out
    simp only at rowa rowa1
    rw [← HXS.out] at hzs hzs'
    have hzl : zs.length = xs.length := by rw [← hzs, List.length_map]
    have hzl' : zs'.length = xs.length := by rw [← hzs', List.length_map]
    rw [hzl] at rowa1
    rw [hzl'] at rowa
    obtain ⟨gv, cv_, hgv⟩ := own_shape rowa (by omega)
    simp only [Value.slice.injEq, true_and] at hgv
    obtain ⟨rfl, rfl⟩ := hgv
    have df := fun o => rowa.frozenAt o
    obtain ⟨dL, dl⟩ := rowa1.lt gv rfl
    have d5 : gv < W7.heap.size := (rowa.lt gv rfl).2
    obtain ⟨m, hm⟩ : ∃ m : Nat, (m : Int) = q2 % xs.length := ⟨(q2 % xs.length).toNat, by have := Int.emod_nonneg q2 (show (xs.length : Int) ≠ 0 by omega); omega⟩
    have hmn : m < xs.length := by have := Int.emod_lt_of_pos q2 (show (0 : Int) < xs.length by omega); omega
    have m0 : (0 : Int) ≤ m := by omega
    have m1 : (m : Int) < xs.length := by omega
    have HM := Lib.hid hm
    obtain ⟨r0, v0⟩ : ∃ u, W7.cell? ⟨gv, m * 7, none⟩ = some u := own_cells7 rowa hmn 0 (by omega)
    obtain ⟨r1, v1⟩ : ∃ u, W7.cell? ⟨gv, m * 7 + 1, none⟩ = some u := own_cells7 rowa hmn 1 (by omega)
    obtain ⟨r2, v2⟩ : ∃ u, W7.cell? ⟨gv, m * 7 + 2, none⟩ = some u := own_cells7 rowa hmn 2 (by omega)
    obtain ⟨r3, v3⟩ : ∃ u, W7.cell? ⟨gv, m * 7 + 3, none⟩ = some u := own_cells7 rowa hmn 3 (by omega)
    obtain ⟨r4, v4⟩ : ∃ u, W7.cell? ⟨gv, m * 7 + 4, none⟩ = some u := own_cells7 rowa hmn 4 (by omega)
    obtain ⟨r5, v5⟩ : ∃ u, W7.cell? ⟨gv, m * 7 + 5, none⟩ = some u := own_cells7 rowa hmn 5 (by omega)
    obtain ⟨r6, v6⟩ : ∃ u, W7.cell? ⟨gv, m * 7 + 6, none⟩ = some u := own_cells7 rowa hmn 6 (by omega)
    obtain ⟨y, hy⟩ : ∃ y, y = valOf q2 := ⟨_, rfl⟩
    have hy10 : y ≤ 10 := by rw [hy]; have := valOf_le q2; omega
    have HY := Lib.hid hy
    have HDF := Lib.hid df; have HTF := Lib.hid tf
    clear rowa rowa1 hzs hzs' hzl hzl' hm hy df tf af bf cf
    go_wp2_with fail
    go_region_held3 (fun w' => w'.cell? ⟨w1.heap.size + 1, 1, none⟩ = some (.slice (some ⟨gv, 0, none⟩) xs.length ac) ∧ w'.cell? ⟨w.heap.size + 1, 2, none⟩ = some (.int .i64 q2)) (first | with_reducible exact ⟨b1, f2⟩ | with_reducible exact ⟨e1, e2⟩ | (refine ⟨?_, ?_⟩ <;> rw [cset_block (by omega)] <;> (repeat rw [cset_block (by omega)]) <;> assumption) | exact ⟨b1, f2⟩ | exact ⟨e1, e2⟩) (first | (go_at_call 57; refine (mod_call q2 xs.length _ (by omega) (by omega)).mono ?_; rintro e w' ⟨rfl, rfl⟩; rw [← HM.out]) | (go_at_call 24; refine (Value_call q2 _).mono ?_; rintro e w9 ⟨rfl, hb9⟩; rw [← HY.out]; have hb9' := bdrew hb9; have e1 := (olds hb9' _ _ bl).trans b1; have e2 := (olds hb9' _ _ f3).trans f2; have i0 := (olds hb9' _ _ d5).trans v0; have i1 := (olds hb9' _ _ d5).trans v1; have i2 := (olds hb9' _ _ d5).trans v2; have i3 := (olds hb9' _ _ d5).trans v3; have i4 := (olds hb9' _ _ d5).trans v4; have i5 := (olds hb9' _ _ d5).trans v5; have i6 := (olds hb9' _ _ d5).trans v6; have df9 : ∀ o, w9.frozen? ⟨gv, o, none⟩ = false := (fun o => (oldf hb9' _ o d5).trans (HDF.out o)); have tf9 : ∀ o, w9.frozen? ⟨w.heap.size + 1 + 1, o, none⟩ = false := (fun o => (oldf hb9' _ o tl).trans (HTF.out o)); have d9 := Nat.lt_of_lt_of_le d5 hb9'.size; have a0 := (olds hb9' _ _ al).trans a0; have a1 := (olds hb9' _ _ al).trans a1; have a2 := (olds hb9' _ _ al).trans a2; have t0 := (olds hb9' _ _ tl).trans t0; have t1 := (olds hb9' _ _ tl).trans t1; have t2 := (olds hb9' _ _ tl).trans t2; have al9 := Nat.lt_of_lt_of_le al hb9'.size; have tl9 := Nat.lt_of_lt_of_le tl hb9'.size; have HB9 := Lib.hid (bthen HB7.out hb9'); have HW9 := Lib.hid (bthen HW7.out hb9'); have HI := Lib.hid (And.intro i0 (And.intro i1 (And.intro i2 (And.intro i3 (And.intro i4 (And.intro i5 i6)))))); clear hb9 hb9'))
    have tf := tf9
    have tl := tl9
    clear df9 tf9
    go_wp2
    have HB7o := HB9.out
    refine bodyPost_ret (v := .agg #[.slice (some ⟨g, 0, none⟩) n cap, .int .i64 dp, .int .i64 lo]) ?_ rfl ⟨_, rfl, PlanSome.mk ?_, (by repeat (first | with_reducible exact Below.refl _ _ | with_reducible assumption | with_reducible refine Below.drew ?_ | with_reducible refine Below.alloc ?_ (by first | omega | (simp; done) | (simp; omega)) _ | with_reducible refine Below.setCell ?_ (by first | omega | (simp; done) | (simp; omega)) _))⟩
    · simp [results, Tryz.results25, go_sem, t0, t1, t2, tf, tl]
    · have hq := HQS.out
      rw [HN.out] at hcap hn12 ⊢
      exact hq.put (j := m) (by omega) hcap HO.out rfl dL HW9.out d9 hy10 HI.out.1 HI.out.2.1 HI.out.2.2.1 HI.out.2.2.2.1 HI.out.2.2.2.2.1 HI.out.2.2.2.2.2.1 HI.out.2.2.2.2.2.2 (by repeat (first | with_reducible exact Tch.refl _ _ _ _ | with_reducible refine Tch.drew ?_ | refine Tch.set ?_ (.inr (.inl (by omega))) _))
set_option maxRecDepth 100000 in
set_option maxHeartbeats 1000000 in
theorem Bent_4 (w : World) (v : Value) (p : PlanS) (q0 q1 q2 : Int) (hv : PlanAt w v (planI p)) (ok : PlanOk p) (hn : 0 < p.asks.length) (hc : q0 % 9 = 4) (hq2 : -9223372036854775808 ≤ q2 ∧ q2 ≤ 9223372036854775807) :
    Calls Tryz.prog 25 #[v, .agg #[.int .i64 q0, .int .i64 q1, .int .i64 q2]] w (BentPost w) := by
  have HV := Lib.hid hv; have HC := Lib.hid hc
  obtain ⟨qv, rfl, hq⟩ := hv
  obtain ⟨xa, xc, rfl, _⟩ := hq.1.open
  have HOK := Lib.hid ok
  have hn12 := ok.len
  obtain ⟨n, hnn⟩ : ∃ n, n = p.asks.length := ⟨_, rfl⟩
  rw [← hnn] at hn hn12
  have HN := Lib.hid hnn
  have hdp := ok.d; have hlo := ok.l
  obtain ⟨dp, hdd⟩ : ∃ dp, dp = p.depth := ⟨_, rfl⟩
  obtain ⟨lo, hll⟩ : ∃ lo, lo = p.lower := ⟨_, rfl⟩
  rw [← hdd] at hdp; rw [← hll] at hlo
  have HDD := Lib.hid hdd; have HLL := Lib.hid hll
  clear hc hq ok hnn hdd hll
  go_enter Tryz.func25, Tryz.ntmps25
  go_wp2_with fail
  refine (copyPlan _ _ p (HV.out.mono (below3 _ _ _ _)) HOK.out.next).mono ?_
  rintro e w1 ⟨v1, rfl, hp1, hb1⟩
  obtain ⟨av, os, rfl, ha1⟩ := hp1
  obtain ⟨g, cap, rfl⟩ := own_shape ha1.own (by rw [← HN.out]; exact hn)
  simp only [World.size_alloc] at ha1
  rw [← HN.out] at ha1
  have hqs := ha1.qs HOK.out.ask
  have hgL := hqs.gL
  have hgs := hqs.gs
  have hT4 := (Tri.new ((w.alloc (.cells #[.slice xa (planI p).asks.length xc, .int .i64 (planI p).depth, .int .i64 (planI p).lower] 29)).alloc (.cells #[.int .i64 q0, .int .i64 q1, .int .i64 q2] 49)) (.slice none 0 0) (.int .i64 0) (.int .i64 0) 29).mono hb1
  have hT3 := ((Tri.new (w.alloc (.cells #[.slice xa (planI p).asks.length xc, .int .i64 (planI p).depth, .int .i64 (planI p).lower] 29)) (.int .i64 q0) (.int .i64 q1) (.int .i64 q2) 49).mono (below1 _ _)).mono hb1
  have hz1 := hb1.size
  simp only [World.size_alloc] at hz1 hT4 hT3
  obtain ⟨e0, e1, e2, _, _⟩ := hT3
  have z3 : w.heap.size + 1 < w1.heap.size := by omega
  have z2 : w.heap.size < w1.heap.size := by omega
  have z4 : w.heap.size + 1 + 1 < w1.heap.size := by omega
  have hcap : n ≤ cap := by
    rcases own_cases ha1.own with ⟨h, _⟩ | ⟨_, _, h, _, _, h2, _⟩
    · cases h
    · simp only [Value.slice.injEq] at h; rw [h.2.2, HN.out]; exact h2
  rw [← HN.out, ← HDD.out, ← HLL.out]
  have HB1 := Lib.hid ((below3 _ _ _ _).trans (hb1.mono (by simp; omega)) : Below w.heap.size w w1)
  have HA1 := Lib.hid ha1; have HQS := Lib.hid hqs; have HT4 := Lib.hid hT4
  clear hb1 ha1 hqs hT4 hz1
  have n0 : ((n : Int) == 0) = false := by rw [beq_eq_false_iff_ne]; omega
  go_wp2_with fail
  refine (mod_call q1 n _ (by omega) (by omega)).mono ?_
  rintro e w2 ⟨rfl, rfl⟩
  obtain ⟨k, hk⟩ : ∃ k : Nat, q1 % n = k := ⟨(q1 % n).toNat, by have := Int.emod_nonneg q1 (show (n : Int) ≠ 0 by omega); omega⟩
  have hkn : k < n := by have := Int.emod_lt_of_pos q1 (show (0 : Int) < n by omega); omega
  rw [hk]
  have k0 : (0 : Int) ≤ k := by omega
  have k1 : (k : Int) < n := by omega
  obtain ⟨o, ho⟩ : ∃ o, os[k]? = some o := ⟨_, List.getElem?_eq_getElem (by have := HQS.out.len; rw [← HN.out] at this; omega)⟩
  obtain ⟨q, hqk⟩ : ∃ q, p.asks[k]? = some q := ⟨_, List.getElem?_eq_getElem (by rw [← HN.out]; omega)⟩
  have ha := HQS.out.at_ k o q ho hqk
  obtain ⟨oi, va, vn⟩ := o
  obtain ⟨xs, hxs⟩ : ∃ xs, xs = q.2.1 := ⟨_, rfl⟩
  obtain ⟨ns, hns⟩ : ∃ ns, ns = q.2.2 := ⟨_, rfl⟩
  rw [← hxs, ← hns] at ha
  obtain ⟨aa, ac, rfl, hac⟩ := ha.v.1.open
  obtain ⟨na, nc, rfl, hnc⟩ := ha.n.1.open
  have hxl := ha.v.2.1
  have hnl := ha.n.2.1
  have hnp : 0 < ns.length := by rw [hns]; exact List.length_pos_iff.2 (HOK.out.next q (List.mem_of_getElem? hqk))
  have hn12' : ns.length ≤ 1000 := by rw [hns]; exact (HOK.out.ask q (List.mem_of_getElem? hqk)).n.1
  have c0 := ha.c0; have c1 := ha.c1; have c2 := ha.c2
  simp only at c0 c1 c2
  have HXS := Lib.hid hxs; have HNS := Lib.hid hns
  have HA := Lib.hid ha; have HO := Lib.hid ho; have HQK := Lib.hid hqk
  clear hk ha ho hqk hxs hns
  go_wp2_with fail
  refine (mod_call q0 9 _ (by omega) (by omega)).mono ?_
  rintro e w2 ⟨rfl, rfl⟩
  rw [HC.out]
  obtain ⟨W7, hW7⟩ : ∃ W7, W7 = (w1.alloc (.cells #[.slice (some ⟨g, 0, none⟩) n cap, .int .i64 dp, .int .i64 lo] 29)).alloc (.cells #[.int .i64 oi, .slice aa xs.length ac, .slice na ns.length nc] 59) := ⟨_, rfl⟩
  rw [← hW7]
  have hb7 : Below w1.heap.size w1 W7 := by rw [hW7]; exact below2 _ _ _
  have hT5 := (Tri.new w1 (.slice (some ⟨g, 0, none⟩) n cap) (.int .i64 dp) (.int .i64 lo) 29).mono (below1 _ (.cells #[.int .i64 oi, .slice aa xs.length ac, .slice na ns.length nc] 59))
  have hT7 := Tri.new (w1.alloc (.cells #[.slice (some ⟨g, 0, none⟩) n cap, .int .i64 dp, .int .i64 lo] 29)) (.int .i64 oi) (.slice aa xs.length ac) (.slice na ns.length nc) 59
  rw [← hW7] at hT5 hT7
  simp only [World.size_alloc] at hT7
  have hT4 := HT4.out.mono hb7
  have f0 := (olds hb7 _ _ z3).trans e0
  have f1 := (olds hb7 _ _ z3).trans e1
  have f2 := (olds hb7 _ _ z3).trans e2
  have c0 := (olds hb7 _ _ hgs).trans c0
  have c1 := (olds hb7 _ _ hgs).trans c1
  have c2 := (olds hb7 _ _ hgs).trans c2
  have hA7 := HA1.out.below hb7
  have cf : ∀ o, W7.frozen? ⟨g, o, none⟩ = false := by have h := hA7.own; rw [← HN.out] at h; exact fun o => h.frozenAt o
  obtain ⟨a0, a1, a2, af, al⟩ := hT5
  obtain ⟨b0, b1, b2, bf, bl⟩ := hT7
  obtain ⟨t0, t1, t2, tf, tl⟩ := hT4
  have gl7 := Nat.lt_of_lt_of_le hgs hb7.size
  have f3 := Nat.lt_of_lt_of_le z3 hb7.size
  have HB7 := Lib.hid (bthen HB1.out hb7)
  have HA7 := Lib.hid hA7; have HW7 := Lib.hid hb7
  clear hW7 hb7 e0 e1 e2 hA7
  obtain ⟨_, _, rown1⟩ := HA1.out.inn k _ q HO.out HQK.out
  obtain ⟨_, _, rown⟩ := HA7.out.inn k _ q HO.out HQK.out
  simp only at rown rown1
  rw [← HNS.out] at rown rown1
  obtain ⟨gn, cn, hgn⟩ := own_shape rown hnp
  simp only [Value.slice.injEq, true_and] at hgn
  obtain ⟨rfl, rfl⟩ := hgn
  have df := fun o => rown.frozenAt o
  obtain ⟨dL, dl⟩ := rown1.lt gn rfl
  have d5 : gn < W7.heap.size := (rown.lt gn rfl).2
  obtain ⟨m, hm⟩ : ∃ m : Nat, (m : Int) = q2 % ns.length := ⟨(q2 % ns.length).toNat, by have := Int.emod_nonneg q2 (show (ns.length : Int) ≠ 0 by omega); omega⟩
  have hmn : m < ns.length := by have := Int.emod_lt_of_pos q2 (show (0 : Int) < ns.length by omega); omega
  have m0 : (0 : Int) ≤ m := by omega
  have m1 : (m : Int) < ns.length := by omega
  obtain ⟨du, d0⟩ : ∃ u, W7.cell? ⟨gn, m, none⟩ = some u := ⟨_, (rown.cellAt m (by omega)).trans (List.getElem?_eq_getElem (by have := rown.1; omega))⟩
  have HM := Lib.hid hm
  clear hm rown rown1
  go_wp2_with fail
  refine wp_region_still_tail 9 (by kernel_rfl) (by kernel_rfl) ?_
  simp only [List.take_succ_cons, List.take_zero, List.drop_succ_cons, List.drop_zero]
  change wpStill _ _ W7.drew _ _ _
  repeat still_step
  refine wpStill_step (fun K hK => ?_)
  go_simp
  refine ⟨_, mod_still q2 ns.length _ (by omega) (by omega), hK _ ?_⟩
  clear hK K
  rw [← HM.out]
  repeat still_step
  refine wpStill_nil ?_
  go_wp2
  have HB7o := HB7.out
  refine bodyPost_ret (v := .agg #[.slice (some ⟨g, 0, none⟩) n cap, .int .i64 (dp), .int .i64 (lo)]) ?_ rfl ⟨_, rfl, PlanSome.mk ?_, (by repeat (first | with_reducible exact Below.refl _ _ | with_reducible assumption | with_reducible refine Below.drew ?_ | with_reducible refine Below.alloc ?_ (by first | omega | (simp; done) | (simp; omega)) _ | with_reducible refine Below.setCell ?_ (by first | omega | (simp; done) | (simp; omega)) _))⟩
  · simp [results, Tryz.results25, go_sem, t0, t1, t2, tf, tl]
  · have hq := HQS.out
    rw [HN.out] at hcap hn12 ⊢
    exact hq.place (k := k) (gn := gn) (j := m) (z := -1) (by omega) hcap HO.out rfl (by repeat (first | with_reducible exact (Tch.refl _ _ _ _).below HW7.out | with_reducible refine Tch.drew ?_ | refine Tch.set ?_ (by first | exact .inl (by omega) | exact .inr (.inl (by omega)) | exact .inr (.inr ⟨rfl, by omega⟩)) _)) (by (try with_reducible refine drewc ?_); rw [cset_block (by omega), cset_block (by omega), cset_block (by omega)]; exact cset_same d0) (by omega)
set_option maxRecDepth 100000 in
set_option maxHeartbeats 1000000 in
theorem Bent_5 (w : World) (v : Value) (p : PlanS) (q0 q1 q2 : Int) (hv : PlanAt w v (planI p)) (ok : PlanOk p) (hn : 0 < p.asks.length) (hc : q0 % 9 = 5) (hq2 : -9223372036854775808 ≤ q2 ∧ q2 ≤ 9223372036854775807) :
    Calls Tryz.prog 25 #[v, .agg #[.int .i64 q0, .int .i64 q1, .int .i64 q2]] w (BentPost w) := by
  have HV := Lib.hid hv; have HC := Lib.hid hc
  obtain ⟨qv, rfl, hq⟩ := hv
  obtain ⟨xa, xc, rfl, _⟩ := hq.1.open
  have HOK := Lib.hid ok
  have hn12 := ok.len
  obtain ⟨n, hnn⟩ : ∃ n, n = p.asks.length := ⟨_, rfl⟩
  rw [← hnn] at hn hn12
  have HN := Lib.hid hnn
  have hdp := ok.d; have hlo := ok.l
  obtain ⟨dp, hdd⟩ : ∃ dp, dp = p.depth := ⟨_, rfl⟩
  obtain ⟨lo, hll⟩ : ∃ lo, lo = p.lower := ⟨_, rfl⟩
  rw [← hdd] at hdp; rw [← hll] at hlo
  have HDD := Lib.hid hdd; have HLL := Lib.hid hll
  clear hc hq ok hnn hdd hll
  go_enter Tryz.func25, Tryz.ntmps25
  go_wp2_with fail
  refine (copyPlan _ _ p (HV.out.mono (below3 _ _ _ _)) HOK.out.next).mono ?_
  rintro e w1 ⟨v1, rfl, hp1, hb1⟩
  obtain ⟨av, os, rfl, ha1⟩ := hp1
  obtain ⟨g, cap, rfl⟩ := own_shape ha1.own (by rw [← HN.out]; exact hn)
  simp only [World.size_alloc] at ha1
  rw [← HN.out] at ha1
  have hqs := ha1.qs HOK.out.ask
  have hgL := hqs.gL
  have hgs := hqs.gs
  have hT4 := (Tri.new ((w.alloc (.cells #[.slice xa (planI p).asks.length xc, .int .i64 (planI p).depth, .int .i64 (planI p).lower] 29)).alloc (.cells #[.int .i64 q0, .int .i64 q1, .int .i64 q2] 49)) (.slice none 0 0) (.int .i64 0) (.int .i64 0) 29).mono hb1
  have hT3 := ((Tri.new (w.alloc (.cells #[.slice xa (planI p).asks.length xc, .int .i64 (planI p).depth, .int .i64 (planI p).lower] 29)) (.int .i64 q0) (.int .i64 q1) (.int .i64 q2) 49).mono (below1 _ _)).mono hb1
  have hz1 := hb1.size
  simp only [World.size_alloc] at hz1 hT4 hT3
  obtain ⟨e0, e1, e2, _, _⟩ := hT3
  have z3 : w.heap.size + 1 < w1.heap.size := by omega
  have z2 : w.heap.size < w1.heap.size := by omega
  have z4 : w.heap.size + 1 + 1 < w1.heap.size := by omega
  have hcap : n ≤ cap := by
    rcases own_cases ha1.own with ⟨h, _⟩ | ⟨_, _, h, _, _, h2, _⟩
    · cases h
    · simp only [Value.slice.injEq] at h; rw [h.2.2, HN.out]; exact h2
  rw [← HN.out, ← HDD.out, ← HLL.out]
  have HB1 := Lib.hid ((below3 _ _ _ _).trans (hb1.mono (by simp; omega)) : Below w.heap.size w w1)
  have HA1 := Lib.hid ha1; have HQS := Lib.hid hqs; have HT4 := Lib.hid hT4
  clear hb1 ha1 hqs hT4 hz1
  have n0 : ((n : Int) == 0) = false := by rw [beq_eq_false_iff_ne]; omega
  go_wp2_with fail
  refine (mod_call q1 n _ (by omega) (by omega)).mono ?_
  rintro e w2 ⟨rfl, rfl⟩
  obtain ⟨k, hk⟩ : ∃ k : Nat, q1 % n = k := ⟨(q1 % n).toNat, by have := Int.emod_nonneg q1 (show (n : Int) ≠ 0 by omega); omega⟩
  have hkn : k < n := by have := Int.emod_lt_of_pos q1 (show (0 : Int) < n by omega); omega
  rw [hk]
  have k0 : (0 : Int) ≤ k := by omega
  have k1 : (k : Int) < n := by omega
  obtain ⟨o, ho⟩ : ∃ o, os[k]? = some o := ⟨_, List.getElem?_eq_getElem (by have := HQS.out.len; rw [← HN.out] at this; omega)⟩
  obtain ⟨q, hqk⟩ : ∃ q, p.asks[k]? = some q := ⟨_, List.getElem?_eq_getElem (by rw [← HN.out]; omega)⟩
  have ha := HQS.out.at_ k o q ho hqk
  obtain ⟨oi, va, vn⟩ := o
  obtain ⟨xs, hxs⟩ : ∃ xs, xs = q.2.1 := ⟨_, rfl⟩
  obtain ⟨ns, hns⟩ : ∃ ns, ns = q.2.2 := ⟨_, rfl⟩
  rw [← hxs, ← hns] at ha
  obtain ⟨aa, ac, rfl, hac⟩ := ha.v.1.open
  obtain ⟨na, nc, rfl, hnc⟩ := ha.n.1.open
  have hxl := ha.v.2.1
  have hnl := ha.n.2.1
  have hnp : 0 < ns.length := by rw [hns]; exact List.length_pos_iff.2 (HOK.out.next q (List.mem_of_getElem? hqk))
  have hn12' : ns.length ≤ 1000 := by rw [hns]; exact (HOK.out.ask q (List.mem_of_getElem? hqk)).n.1
  have c0 := ha.c0; have c1 := ha.c1; have c2 := ha.c2
  simp only at c0 c1 c2
  have HXS := Lib.hid hxs; have HNS := Lib.hid hns
  have HA := Lib.hid ha; have HO := Lib.hid ho; have HQK := Lib.hid hqk
  clear hk ha ho hqk hxs hns
  go_wp2_with fail
  refine (mod_call q0 9 _ (by omega) (by omega)).mono ?_
  rintro e w2 ⟨rfl, rfl⟩
  rw [HC.out]
  obtain ⟨W7, hW7⟩ : ∃ W7, W7 = (w1.alloc (.cells #[.slice (some ⟨g, 0, none⟩) n cap, .int .i64 dp, .int .i64 lo] 29)).alloc (.cells #[.int .i64 oi, .slice aa xs.length ac, .slice na ns.length nc] 59) := ⟨_, rfl⟩
  rw [← hW7]
  have hb7 : Below w1.heap.size w1 W7 := by rw [hW7]; exact below2 _ _ _
  have hT5 := (Tri.new w1 (.slice (some ⟨g, 0, none⟩) n cap) (.int .i64 dp) (.int .i64 lo) 29).mono (below1 _ (.cells #[.int .i64 oi, .slice aa xs.length ac, .slice na ns.length nc] 59))
  have hT7 := Tri.new (w1.alloc (.cells #[.slice (some ⟨g, 0, none⟩) n cap, .int .i64 dp, .int .i64 lo] 29)) (.int .i64 oi) (.slice aa xs.length ac) (.slice na ns.length nc) 59
  rw [← hW7] at hT5 hT7
  simp only [World.size_alloc] at hT7
  have hT4 := HT4.out.mono hb7
  have f0 := (olds hb7 _ _ z3).trans e0
  have f1 := (olds hb7 _ _ z3).trans e1
  have f2 := (olds hb7 _ _ z3).trans e2
  have c0 := (olds hb7 _ _ hgs).trans c0
  have c1 := (olds hb7 _ _ hgs).trans c1
  have c2 := (olds hb7 _ _ hgs).trans c2
  have hA7 := HA1.out.below hb7
  have cf : ∀ o, W7.frozen? ⟨g, o, none⟩ = false := by have h := hA7.own; rw [← HN.out] at h; exact fun o => h.frozenAt o
  obtain ⟨a0, a1, a2, af, al⟩ := hT5
  obtain ⟨b0, b1, b2, bf, bl⟩ := hT7
  obtain ⟨t0, t1, t2, tf, tl⟩ := hT4
  have gl7 := Nat.lt_of_lt_of_le hgs hb7.size
  have f3 := Nat.lt_of_lt_of_le z3 hb7.size
  have HB7 := Lib.hid (bthen HB1.out hb7)
  have HA7 := Lib.hid hA7; have HW7 := Lib.hid hb7
  clear hW7 hb7 e0 e1 e2 hA7
  obtain ⟨_, _, rown1⟩ := HA1.out.inn k _ q HO.out HQK.out
  obtain ⟨_, _, rown⟩ := HA7.out.inn k _ q HO.out HQK.out
  simp only at rown rown1
  rw [← HNS.out] at rown rown1
  obtain ⟨gn, cn, hgn⟩ := own_shape rown hnp
  simp only [Value.slice.injEq, true_and] at hgn
  obtain ⟨rfl, rfl⟩ := hgn
  have df := fun o => rown.frozenAt o
  obtain ⟨dL, dl⟩ := rown1.lt gn rfl
  have d5 : gn < W7.heap.size := (rown.lt gn rfl).2
  obtain ⟨du, d0⟩ : ∃ u, W7.cell? ⟨gn, 0, none⟩ = some u := ⟨_, (rown.cellAt 0 (by omega)).trans (List.getElem?_eq_getElem (by have := rown.1; omega))⟩
  have n1 : (0 : Int) < ns.length := by omega
  clear rown rown1
  go_wp2
  have HB7o := HB7.out
  refine bodyPost_ret (v := .agg #[.slice (some ⟨g, 0, none⟩) n cap, .int .i64 (dp), .int .i64 (lo)]) ?_ rfl ⟨_, rfl, PlanSome.mk ?_, (by repeat (first | with_reducible exact Below.refl _ _ | with_reducible assumption | with_reducible refine Below.drew ?_ | with_reducible refine Below.alloc ?_ (by first | omega | (simp; done) | (simp; omega)) _ | with_reducible refine Below.setCell ?_ (by first | omega | (simp; done) | (simp; omega)) _))⟩
  · simp [results, Tryz.results25, go_sem, t0, t1, t2, tf, tl]
  · have hq := HQS.out
    rw [HN.out] at hcap hn12 ⊢
    exact hq.place (k := k) (gn := gn) (j := 0) (z := q2) (by omega) hcap HO.out rfl (by repeat (first | with_reducible exact (Tch.refl _ _ _ _).below HW7.out | with_reducible refine Tch.drew ?_ | refine Tch.set ?_ (by first | exact .inl (by omega) | exact .inr (.inl (by omega)) | exact .inr (.inr ⟨rfl, by omega⟩)) _)) (by (try with_reducible refine drewc ?_); rw [cset_block (by omega), cset_block (by omega), cset_block (by omega)]; exact cset_same d0) hq2
set_option maxRecDepth 100000 in
set_option maxHeartbeats 1000000 in
theorem Bent_6 (w : World) (v : Value) (p : PlanS) (q0 q1 q2 : Int) (hv : PlanAt w v (planI p)) (ok : PlanOk p) (hn : 0 < p.asks.length) (hc : q0 % 9 = 6) (hq2 : -9223372036854775808 ≤ q2 ∧ q2 ≤ 9223372036854775807) :
    Calls Tryz.prog 25 #[v, .agg #[.int .i64 q0, .int .i64 q1, .int .i64 q2]] w (BentPost w) := by
  have HV := Lib.hid hv; have HC := Lib.hid hc
  obtain ⟨qv, rfl, hq⟩ := hv
  obtain ⟨xa, xc, rfl, _⟩ := hq.1.open
  have HOK := Lib.hid ok
  have hn12 := ok.len
  obtain ⟨n, hnn⟩ : ∃ n, n = p.asks.length := ⟨_, rfl⟩
  rw [← hnn] at hn hn12
  have HN := Lib.hid hnn
  have hdp := ok.d; have hlo := ok.l
  obtain ⟨dp, hdd⟩ : ∃ dp, dp = p.depth := ⟨_, rfl⟩
  obtain ⟨lo, hll⟩ : ∃ lo, lo = p.lower := ⟨_, rfl⟩
  rw [← hdd] at hdp; rw [← hll] at hlo
  have HDD := Lib.hid hdd; have HLL := Lib.hid hll
  clear hc hq ok hnn hdd hll
  go_enter Tryz.func25, Tryz.ntmps25
  go_wp2_with fail
  refine (copyPlan _ _ p (HV.out.mono (below3 _ _ _ _)) HOK.out.next).mono ?_
  rintro e w1 ⟨v1, rfl, hp1, hb1⟩
  obtain ⟨av, os, rfl, ha1⟩ := hp1
  obtain ⟨g, cap, rfl⟩ := own_shape ha1.own (by rw [← HN.out]; exact hn)
  simp only [World.size_alloc] at ha1
  rw [← HN.out] at ha1
  have hqs := ha1.qs HOK.out.ask
  have hgL := hqs.gL
  have hgs := hqs.gs
  have hT4 := (Tri.new ((w.alloc (.cells #[.slice xa (planI p).asks.length xc, .int .i64 (planI p).depth, .int .i64 (planI p).lower] 29)).alloc (.cells #[.int .i64 q0, .int .i64 q1, .int .i64 q2] 49)) (.slice none 0 0) (.int .i64 0) (.int .i64 0) 29).mono hb1
  have hT3 := ((Tri.new (w.alloc (.cells #[.slice xa (planI p).asks.length xc, .int .i64 (planI p).depth, .int .i64 (planI p).lower] 29)) (.int .i64 q0) (.int .i64 q1) (.int .i64 q2) 49).mono (below1 _ _)).mono hb1
  have hz1 := hb1.size
  simp only [World.size_alloc] at hz1 hT4 hT3
  obtain ⟨e0, e1, e2, _, _⟩ := hT3
  have z3 : w.heap.size + 1 < w1.heap.size := by omega
  have z2 : w.heap.size < w1.heap.size := by omega
  have z4 : w.heap.size + 1 + 1 < w1.heap.size := by omega
  have hcap : n ≤ cap := by
    rcases own_cases ha1.own with ⟨h, _⟩ | ⟨_, _, h, _, _, h2, _⟩
    · cases h
    · simp only [Value.slice.injEq] at h; rw [h.2.2, HN.out]; exact h2
  rw [← HN.out, ← HDD.out, ← HLL.out]
  have HB1 := Lib.hid ((below3 _ _ _ _).trans (hb1.mono (by simp; omega)) : Below w.heap.size w w1)
  have HA1 := Lib.hid ha1; have HQS := Lib.hid hqs; have HT4 := Lib.hid hT4
  clear hb1 ha1 hqs hT4 hz1
  have n0 : ((n : Int) == 0) = false := by rw [beq_eq_false_iff_ne]; omega
  go_wp2_with fail
  refine (mod_call q1 n _ (by omega) (by omega)).mono ?_
  rintro e w2 ⟨rfl, rfl⟩
  obtain ⟨k, hk⟩ : ∃ k : Nat, q1 % n = k := ⟨(q1 % n).toNat, by have := Int.emod_nonneg q1 (show (n : Int) ≠ 0 by omega); omega⟩
  have hkn : k < n := by have := Int.emod_lt_of_pos q1 (show (0 : Int) < n by omega); omega
  rw [hk]
  have k0 : (0 : Int) ≤ k := by omega
  have k1 : (k : Int) < n := by omega
  obtain ⟨o, ho⟩ : ∃ o, os[k]? = some o := ⟨_, List.getElem?_eq_getElem (by have := HQS.out.len; rw [← HN.out] at this; omega)⟩
  obtain ⟨q, hqk⟩ : ∃ q, p.asks[k]? = some q := ⟨_, List.getElem?_eq_getElem (by rw [← HN.out]; omega)⟩
  have ha := HQS.out.at_ k o q ho hqk
  obtain ⟨oi, va, vn⟩ := o
  obtain ⟨xs, hxs⟩ : ∃ xs, xs = q.2.1 := ⟨_, rfl⟩
  obtain ⟨ns, hns⟩ : ∃ ns, ns = q.2.2 := ⟨_, rfl⟩
  rw [← hxs, ← hns] at ha
  obtain ⟨aa, ac, rfl, hac⟩ := ha.v.1.open
  obtain ⟨na, nc, rfl, hnc⟩ := ha.n.1.open
  have hxl := ha.v.2.1
  have hnl := ha.n.2.1
  have hnp : 0 < ns.length := by rw [hns]; exact List.length_pos_iff.2 (HOK.out.next q (List.mem_of_getElem? hqk))
  have hn12' : ns.length ≤ 1000 := by rw [hns]; exact (HOK.out.ask q (List.mem_of_getElem? hqk)).n.1
  have c0 := ha.c0; have c1 := ha.c1; have c2 := ha.c2
  simp only at c0 c1 c2
  have HXS := Lib.hid hxs; have HNS := Lib.hid hns
  have HA := Lib.hid ha; have HO := Lib.hid ho; have HQK := Lib.hid hqk
  clear hk ha ho hqk hxs hns
  go_wp2_with fail
  refine (mod_call q0 9 _ (by omega) (by omega)).mono ?_
  rintro e w2 ⟨rfl, rfl⟩
  rw [HC.out]
  obtain ⟨W7, hW7⟩ : ∃ W7, W7 = (w1.alloc (.cells #[.slice (some ⟨g, 0, none⟩) n cap, .int .i64 dp, .int .i64 lo] 29)).alloc (.cells #[.int .i64 oi, .slice aa xs.length ac, .slice na ns.length nc] 59) := ⟨_, rfl⟩
  rw [← hW7]
  have hb7 : Below w1.heap.size w1 W7 := by rw [hW7]; exact below2 _ _ _
  have hT5 := (Tri.new w1 (.slice (some ⟨g, 0, none⟩) n cap) (.int .i64 dp) (.int .i64 lo) 29).mono (below1 _ (.cells #[.int .i64 oi, .slice aa xs.length ac, .slice na ns.length nc] 59))
  have hT7 := Tri.new (w1.alloc (.cells #[.slice (some ⟨g, 0, none⟩) n cap, .int .i64 dp, .int .i64 lo] 29)) (.int .i64 oi) (.slice aa xs.length ac) (.slice na ns.length nc) 59
  rw [← hW7] at hT5 hT7
  simp only [World.size_alloc] at hT7
  have hT4 := HT4.out.mono hb7
  have f0 := (olds hb7 _ _ z3).trans e0
  have f1 := (olds hb7 _ _ z3).trans e1
  have f2 := (olds hb7 _ _ z3).trans e2
  have c0 := (olds hb7 _ _ hgs).trans c0
  have c1 := (olds hb7 _ _ hgs).trans c1
  have c2 := (olds hb7 _ _ hgs).trans c2
  have hA7 := HA1.out.below hb7
  have cf : ∀ o, W7.frozen? ⟨g, o, none⟩ = false := by have h := hA7.own; rw [← HN.out] at h; exact fun o => h.frozenAt o
  obtain ⟨a0, a1, a2, af, al⟩ := hT5
  obtain ⟨b0, b1, b2, bf, bl⟩ := hT7
  obtain ⟨t0, t1, t2, tf, tl⟩ := hT4
  have gl7 := Nat.lt_of_lt_of_le hgs hb7.size
  have f3 := Nat.lt_of_lt_of_le z3 hb7.size
  have HB7 := Lib.hid (bthen HB1.out hb7)
  have HA7 := Lib.hid hA7; have HW7 := Lib.hid hb7
  clear hW7 hb7 e0 e1 e2 hA7
  by_cases hx0 : xs.length = 0
  · have x0 : ¬ (0 : Int) < xs.length := by omega
    go_wp2
    have HB7o := HB7.out
    refine bodyPost_ret (v := .agg #[.slice (some ⟨g, 0, none⟩) n cap, .int .i64 (dp), .int .i64 (lo)]) ?_ rfl ⟨_, rfl, PlanSome.mk ?_, (by repeat (first | with_reducible exact Below.refl _ _ | with_reducible assumption | with_reducible refine Below.drew ?_ | with_reducible refine Below.alloc ?_ (by first | omega | (simp; done) | (simp; omega)) _ | with_reducible refine Below.setCell ?_ (by first | omega | (simp; done) | (simp; omega)) _))⟩
    · simp [results, Tryz.results25, go_sem, t0, t1, t2, tf, tl]
    · have hq := HQS.out
      rw [HN.out] at hcap hn12 ⊢
      exact hq.same (B := 0) (by omega) hcap (by repeat (first | with_reducible exact (Tch.refl _ _ _ _).below HW7.out | with_reducible refine Tch.drew ?_ | refine Tch.set ?_ (by first | exact .inl (by omega) | exact .inr (.inl (by omega)) | exact .inr (.inr ⟨rfl, by omega⟩)) _))
  · have x0 : (0 : Int) < xs.length := by omega
    obtain ⟨_, ⟨zs, hzs, rowa1⟩, _⟩ := HA1.out.inn k _ q HO.out HQK.out
    obtain ⟨_, ⟨zs', hzs', rowa⟩, _⟩ := HA7.out.inn k _ q HO.out HQK.out
    simp only at rowa rowa1
    rw [← HXS.out] at hzs hzs'
    have hzl : zs.length = xs.length := by rw [← hzs, List.length_map]
    have hzl' : zs'.length = xs.length := by rw [← hzs', List.length_map]
    rw [hzl] at rowa1
    rw [hzl'] at rowa
    obtain ⟨gv, cv_, hgv⟩ := own_shape rowa (by omega)
    simp only [Value.slice.injEq, true_and] at hgv
    obtain ⟨rfl, rfl⟩ := hgv
    have df := fun o => rowa.frozenAt o
    obtain ⟨dL, dl⟩ := rowa1.lt gv rfl
    have d5 : gv < W7.heap.size := (rowa.lt gv rfl).2
    clear rowa rowa1 hzs hzs' hzl hzl'
    have x1 : (1 : Int) ≤ xs.length := by omega
    have x2 : (1 : Int) ≤ ac := by omega
    go_wp2_with fail
    refine wp_region_still_tail 8 (by kernel_rfl) (by kernel_rfl) ?_
    simp only [List.take_succ_cons, List.take_zero, List.drop_succ_cons, List.drop_zero]
    change wpStill _ _ W7.drew _ _ _
    repeat still_step
    refine wpStill_nil ?_
    go_wp2
    · have HB7o := HB7.out
      refine bodyPost_ret (v := .agg #[.slice (some ⟨g, 0, none⟩) n cap, .int .i64 (dp), .int .i64 (lo)]) ?_ rfl ⟨_, rfl, PlanSome.mk ?_, (by repeat (first | with_reducible exact Below.refl _ _ | with_reducible assumption | with_reducible refine Below.drew ?_ | with_reducible refine Below.alloc ?_ (by first | omega | (simp; done) | (simp; omega)) _ | with_reducible refine Below.setCell ?_ (by first | omega | (simp; done) | (simp; omega)) _))⟩
      · simp [results, Tryz.results25, go_sem, t0, t1, t2, tf, tl]
      · have hq := HQS.out
        rw [HN.out] at hcap hn12 ⊢
        exact hq.fewer (k := k) (gv := gv) (cv_ := 0) (m := xs.length - 1) (off := 0) (by omega) hcap HO.out (by simp only; rw [show xs.length - 1 + 1 = xs.length by omega, show 0 + 1 = ac by omega]) (fun h => by omega) (by repeat (first | with_reducible exact (Tch.refl _ _ _ _).below HW7.out | with_reducible refine Tch.drew ?_ | refine Tch.set ?_ (by first | exact .inl (by omega) | exact .inr (.inl (by omega)) | exact .inr (.inr ⟨rfl, by omega⟩)) _)) (by (try with_reducible refine drewc ?_); rw [cset_block (by omega), cset_block (by omega), cset_block (by omega)]; exact cset_same c1)
    · have HB7o := HB7.out
      refine bodyPost_ret (v := .agg #[.slice (some ⟨g, 0, none⟩) n cap, .int .i64 (dp), .int .i64 (lo)]) ?_ rfl ⟨_, rfl, PlanSome.mk ?_, (by repeat (first | with_reducible exact Below.refl _ _ | with_reducible assumption | with_reducible refine Below.drew ?_ | with_reducible refine Below.alloc ?_ (by first | omega | (simp; done) | (simp; omega)) _ | with_reducible refine Below.setCell ?_ (by first | omega | (simp; done) | (simp; omega)) _))⟩
      · simp [results, Tryz.results25, go_sem, t0, t1, t2, tf, tl]
      · have hq := HQS.out
        rw [HN.out] at hcap hn12 ⊢
        exact hq.fewer (k := k) (gv := gv) (cv_ := ac - 1) (m := xs.length - 1) (off := 7) (by omega) hcap HO.out (by simp only; rw [show xs.length - 1 + 1 = xs.length by omega, show ac - 1 + 1 = ac by omega]) (fun h => by omega) (by repeat (first | with_reducible exact (Tch.refl _ _ _ _).below HW7.out | with_reducible refine Tch.drew ?_ | refine Tch.set ?_ (by first | exact .inl (by omega) | exact .inr (.inl (by omega)) | exact .inr (.inr ⟨rfl, by omega⟩)) _)) (by (try with_reducible refine drewc ?_); rw [cset_block (by omega), cset_block (by omega), cset_block (by omega)]; exact cset_same c1)
set_option maxRecDepth 100000 in
set_option maxHeartbeats 1000000 in
theorem Bent_7 (w : World) (v : Value) (p : PlanS) (q0 q1 q2 : Int) (hv : PlanAt w v (planI p)) (ok : PlanOk p) (hn : 0 < p.asks.length) (hc : q0 % 9 = 7) (hq2 : -9223372036854775808 ≤ q2 ∧ q2 ≤ 9223372036854775807) :
    Calls Tryz.prog 25 #[v, .agg #[.int .i64 q0, .int .i64 q1, .int .i64 q2]] w (BentPost w) := by
  have HV := Lib.hid hv; have HC := Lib.hid hc
  obtain ⟨qv, rfl, hq⟩ := hv
  obtain ⟨xa, xc, rfl, _⟩ := hq.1.open
  have HOK := Lib.hid ok
  have hn12 := ok.len
  obtain ⟨n, hnn⟩ : ∃ n, n = p.asks.length := ⟨_, rfl⟩
  rw [← hnn] at hn hn12
  have HN := Lib.hid hnn
  have hdp := ok.d; have hlo := ok.l
  obtain ⟨dp, hdd⟩ : ∃ dp, dp = p.depth := ⟨_, rfl⟩
  obtain ⟨lo, hll⟩ : ∃ lo, lo = p.lower := ⟨_, rfl⟩
  rw [← hdd] at hdp; rw [← hll] at hlo
  have HDD := Lib.hid hdd; have HLL := Lib.hid hll
  clear hc hq ok hnn hdd hll
  go_enter Tryz.func25, Tryz.ntmps25
  go_wp2_with fail
  refine (copyPlan _ _ p (HV.out.mono (below3 _ _ _ _)) HOK.out.next).mono ?_
  rintro e w1 ⟨v1, rfl, hp1, hb1⟩
  obtain ⟨av, os, rfl, ha1⟩ := hp1
  obtain ⟨g, cap, rfl⟩ := own_shape ha1.own (by rw [← HN.out]; exact hn)
  simp only [World.size_alloc] at ha1
  rw [← HN.out] at ha1
  have hqs := ha1.qs HOK.out.ask
  have hgL := hqs.gL
  have hgs := hqs.gs
  have hT4 := (Tri.new ((w.alloc (.cells #[.slice xa (planI p).asks.length xc, .int .i64 (planI p).depth, .int .i64 (planI p).lower] 29)).alloc (.cells #[.int .i64 q0, .int .i64 q1, .int .i64 q2] 49)) (.slice none 0 0) (.int .i64 0) (.int .i64 0) 29).mono hb1
  have hT3 := ((Tri.new (w.alloc (.cells #[.slice xa (planI p).asks.length xc, .int .i64 (planI p).depth, .int .i64 (planI p).lower] 29)) (.int .i64 q0) (.int .i64 q1) (.int .i64 q2) 49).mono (below1 _ _)).mono hb1
  have hz1 := hb1.size
  simp only [World.size_alloc] at hz1 hT4 hT3
  obtain ⟨e0, e1, e2, _, _⟩ := hT3
  have z3 : w.heap.size + 1 < w1.heap.size := by omega
  have z2 : w.heap.size < w1.heap.size := by omega
  have z4 : w.heap.size + 1 + 1 < w1.heap.size := by omega
  have hcap : n ≤ cap := by
    rcases own_cases ha1.own with ⟨h, _⟩ | ⟨_, _, h, _, _, h2, _⟩
    · cases h
    · simp only [Value.slice.injEq] at h; rw [h.2.2, HN.out]; exact h2
  rw [← HN.out, ← HDD.out, ← HLL.out]
  have HB1 := Lib.hid ((below3 _ _ _ _).trans (hb1.mono (by simp; omega)) : Below w.heap.size w w1)
  have HA1 := Lib.hid ha1; have HQS := Lib.hid hqs; have HT4 := Lib.hid hT4
  clear hb1 ha1 hqs hT4 hz1
  have n0 : ((n : Int) == 0) = false := by rw [beq_eq_false_iff_ne]; omega
  go_wp2_with fail
  refine (mod_call q1 n _ (by omega) (by omega)).mono ?_
  rintro e w2 ⟨rfl, rfl⟩
  obtain ⟨k, hk⟩ : ∃ k : Nat, q1 % n = k := ⟨(q1 % n).toNat, by have := Int.emod_nonneg q1 (show (n : Int) ≠ 0 by omega); omega⟩
  have hkn : k < n := by have := Int.emod_lt_of_pos q1 (show (0 : Int) < n by omega); omega
  rw [hk]
  have k0 : (0 : Int) ≤ k := by omega
  have k1 : (k : Int) < n := by omega
  obtain ⟨o, ho⟩ : ∃ o, os[k]? = some o := ⟨_, List.getElem?_eq_getElem (by have := HQS.out.len; rw [← HN.out] at this; omega)⟩
  obtain ⟨q, hqk⟩ : ∃ q, p.asks[k]? = some q := ⟨_, List.getElem?_eq_getElem (by rw [← HN.out]; omega)⟩
  have ha := HQS.out.at_ k o q ho hqk
  obtain ⟨oi, va, vn⟩ := o
  obtain ⟨xs, hxs⟩ : ∃ xs, xs = q.2.1 := ⟨_, rfl⟩
  obtain ⟨ns, hns⟩ : ∃ ns, ns = q.2.2 := ⟨_, rfl⟩
  rw [← hxs, ← hns] at ha
  obtain ⟨aa, ac, rfl, hac⟩ := ha.v.1.open
  obtain ⟨na, nc, rfl, hnc⟩ := ha.n.1.open
  have hxl := ha.v.2.1
  have hnl := ha.n.2.1
  have hnp : 0 < ns.length := by rw [hns]; exact List.length_pos_iff.2 (HOK.out.next q (List.mem_of_getElem? hqk))
  have hn12' : ns.length ≤ 1000 := by rw [hns]; exact (HOK.out.ask q (List.mem_of_getElem? hqk)).n.1
  have c0 := ha.c0; have c1 := ha.c1; have c2 := ha.c2
  simp only at c0 c1 c2
  have HXS := Lib.hid hxs; have HNS := Lib.hid hns
  have HA := Lib.hid ha; have HO := Lib.hid ho; have HQK := Lib.hid hqk
  clear hk ha ho hqk hxs hns
  go_wp2_with fail
  refine (mod_call q0 9 _ (by omega) (by omega)).mono ?_
  rintro e w2 ⟨rfl, rfl⟩
  rw [HC.out]
  obtain ⟨W7, hW7⟩ : ∃ W7, W7 = (w1.alloc (.cells #[.slice (some ⟨g, 0, none⟩) n cap, .int .i64 dp, .int .i64 lo] 29)).alloc (.cells #[.int .i64 oi, .slice aa xs.length ac, .slice na ns.length nc] 59) := ⟨_, rfl⟩
  rw [← hW7]
  have hb7 : Below w1.heap.size w1 W7 := by rw [hW7]; exact below2 _ _ _
  have hT5 := (Tri.new w1 (.slice (some ⟨g, 0, none⟩) n cap) (.int .i64 dp) (.int .i64 lo) 29).mono (below1 _ (.cells #[.int .i64 oi, .slice aa xs.length ac, .slice na ns.length nc] 59))
  have hT7 := Tri.new (w1.alloc (.cells #[.slice (some ⟨g, 0, none⟩) n cap, .int .i64 dp, .int .i64 lo] 29)) (.int .i64 oi) (.slice aa xs.length ac) (.slice na ns.length nc) 59
  rw [← hW7] at hT5 hT7
  simp only [World.size_alloc] at hT7
  have hT4 := HT4.out.mono hb7
  have f0 := (olds hb7 _ _ z3).trans e0
  have f1 := (olds hb7 _ _ z3).trans e1
  have f2 := (olds hb7 _ _ z3).trans e2
  have c0 := (olds hb7 _ _ hgs).trans c0
  have c1 := (olds hb7 _ _ hgs).trans c1
  have c2 := (olds hb7 _ _ hgs).trans c2
  have hA7 := HA1.out.below hb7
  have cf : ∀ o, W7.frozen? ⟨g, o, none⟩ = false := by have h := hA7.own; rw [← HN.out] at h; exact fun o => h.frozenAt o
  obtain ⟨a0, a1, a2, af, al⟩ := hT5
  obtain ⟨b0, b1, b2, bf, bl⟩ := hT7
  obtain ⟨t0, t1, t2, tf, tl⟩ := hT4
  have gl7 := Nat.lt_of_lt_of_le hgs hb7.size
  have f3 := Nat.lt_of_lt_of_le z3 hb7.size
  have HB7 := Lib.hid (bthen HB1.out hb7)
  have HA7 := Lib.hid hA7; have HW7 := Lib.hid hb7
  clear hW7 hb7 e0 e1 e2 hA7
  obtain ⟨i0, hi, hz0, hz1, hz2⟩ := info_parts info_ask
  have hoA := HA7.out.own
  rw [← HN.out] at hoA
  have HOA := Lib.hid hoA
  have Hi := Lib.hid hi; have Hz0 := Lib.hid hz0; have Hz1 := Lib.hid hz1; have Hz2 := Lib.hid hz2
  clear hi hz0 hz1 hz2 hoA
  go_wp2_with (at_builtin; ((refine wpList_app rfl (.tmp 126) (.tmp 128) 27 rfl (w.heap.size + 1 + 1 + 1) 59 i0 _ 3 56 und_asks Hi.out Hz0.out Hz1.out Hz2.out rfl (by decide) _ _ _ rfl (HOA.out.alloc _) ⟨W7.heap.size, 0, none⟩ 1 1 [.int .i64 oi, .slice aa xs.length ac, .slice na ns.length nc] rfl rfl (One.cells (heap_alloc_new W7 _)) (by intro u hu; simp at hu; rcases hu with rfl | rfl | rfl <;> rfl) (by unfold maxLen; omega) (by omega) (by simp; omega) ?_; intro v' w9 hown hgr hfr; obtain ⟨g9, k9, rfl⟩ := own_shape hown (by omega); have n5 : some w1.heap.size ≠ Value.ownBlock (.slice (some ⟨g, 0, none⟩) n cap) := (by simp [Value.ownBlock]; omega); have n4 : some (w.heap.size + 1 + 1) ≠ Value.ownBlock (.slice (some ⟨g, 0, none⟩) n cap) := (by simp [Value.ownBlock]; omega); have x0 := hgr.cell ((olds (below1 W7 _) _ _ al).trans a0) n5; have x1 := hgr.cell ((olds (below1 W7 _) _ _ al).trans a1) n5; have x2 := hgr.cell ((olds (below1 W7 _) _ _ al).trans a2) n5; have y0 := hgr.cell ((olds (below1 W7 _) _ _ tl).trans t0) n4; have y1 := hgr.cell ((olds (below1 W7 _) _ _ tl).trans t1) n4; have y2 := hgr.cell ((olds (below1 W7 _) _ _ tl).trans t2) n4; have xf : ∀ o, w9.frozen? ⟨w1.heap.size, o, none⟩ = false := (fun o => (World.frozen?_of_block (hgr.block w1.heap.size (by simp; omega) n5)).trans ((oldf (below1 W7 _) _ o al).trans (af o))); have yf : ∀ o, w9.frozen? ⟨w.heap.size + 1 + 1, o, none⟩ = false := (fun o => (World.frozen?_of_block (hgr.block (w.heap.size + 1 + 1) (by simp; omega) n4)).trans ((oldf (below1 W7 _) _ o tl).trans (tf o))); have xl : w1.heap.size < w9.heap.size := Nat.lt_of_lt_of_le (by simp; omega) hgr.size; have yl : w.heap.size + 1 + 1 < w9.heap.size := Nat.lt_of_lt_of_le (by simp; omega) hgr.size; have hb9 : Below w.heap.size w w9 := (HB7.out.alloc HB7.out.size _).grown hgr (by have := HB7.out.size; simp; omega) (fun q hq => by cases hq; show w.heap.size ≤ g; omega); have HOWN := Lib.hid hown; have HGR := Lib.hid hgr; have HFR : RowKit.Hid (Value.ownBlock (.slice (some ⟨g9, 0, none⟩) (n + 1) k9) = some g ∨ ∀ b, Value.ownBlock (.slice (some ⟨g9, 0, none⟩) (n + 1) k9) = some b → (W7.alloc (.cells #[.int .i64 oi, .slice aa xs.length ac, .slice na ns.length nc] 59)).heap.size ≤ b) := Lib.hid hfr; have HB9 := Lib.hid hb9; clear hown hgr hfr hb9 n5 n4)))
  have HB9o := HB9.out
  refine bodyPost_ret (v := .agg #[.slice (some ⟨g9, 0, none⟩) (n + 1) k9, .int .i64 dp, .int .i64 lo]) ?_ rfl ⟨_, rfl, PlanSome.mk ?_, (by repeat (first | with_reducible exact Below.refl _ _ | with_reducible assumption | with_reducible refine Below.drew ?_ | with_reducible refine Below.alloc ?_ (by first | omega | (simp; done) | (simp; omega)) _ | with_reducible refine Below.setCell ?_ (by first | omega | (simp; done) | (simp; omega)) _))⟩
  · simp [results, Tryz.results25, go_sem, y0, y1, y2, yf, yl]
  · have n9 : g9 ≠ w1.heap.size := by
      rcases HFR.out with h | h
      · have h' : g9 = g := by simpa [Value.ownBlock] using h
        omega
      · have := h g9 rfl; simp at this; omega
    have hB : ∀ x ∈ os, x.2.1.ownBlock ≠ some w1.heap.size ∧ x.2.2.ownBlock ≠ some w1.heap.size := fun x hx => by
      obtain ⟨i, hi, rfl⟩ := List.mem_iff_getElem.1 hx
      exact ⟨fun e => by have := (HA1.out.lt1 (i := i) (u := os[i].2.1) (by rw [List.getElem?_map, List.getElem?_eq_getElem hi]; rfl) e).2; omega, fun e => by have := (HA1.out.lt2 (i := i) (u := os[i].2.2) (by rw [List.getElem?_map, List.getElem?_eq_getElem hi]; rfl) e).2; omega⟩
    exact (HA7.out.below (below1 _ _)).more (B := w1.heap.size) HOK.out.ask HN.out (by omega) HO.out HGR.out HOWN.out (by repeat (first | with_reducible exact Tch.refl _ _ _ _ | with_reducible refine Tch.drew ?_ | refine Tch.set ?_ (by first | exact .inl (by omega) | exact .inr (.inl (by omega)) | exact .inr (.inr ⟨rfl, trivial⟩)) _)) n9 hB
set_option maxRecDepth 100000 in
set_option maxHeartbeats 1000000 in
theorem Bent_8 (w : World) (v : Value) (p : PlanS) (q0 q1 q2 : Int) (hv : PlanAt w v (planI p)) (ok : PlanOk p) (hn : 0 < p.asks.length) (hc : q0 % 9 = 8) (hq2 : -9223372036854775808 ≤ q2 ∧ q2 ≤ 9223372036854775807) :
    Calls Tryz.prog 25 #[v, .agg #[.int .i64 q0, .int .i64 q1, .int .i64 q2]] w (BentPost w) := by
  have HV := Lib.hid hv; have HC := Lib.hid hc
  obtain ⟨qv, rfl, hq⟩ := hv
  obtain ⟨xa, xc, rfl, _⟩ := hq.1.open
  have HOK := Lib.hid ok
  have hn12 := ok.len
  obtain ⟨n, hnn⟩ : ∃ n, n = p.asks.length := ⟨_, rfl⟩
  rw [← hnn] at hn hn12
  have HN := Lib.hid hnn
  have hdp := ok.d; have hlo := ok.l
  obtain ⟨dp, hdd⟩ : ∃ dp, dp = p.depth := ⟨_, rfl⟩
  obtain ⟨lo, hll⟩ : ∃ lo, lo = p.lower := ⟨_, rfl⟩
  rw [← hdd] at hdp; rw [← hll] at hlo
  have HDD := Lib.hid hdd; have HLL := Lib.hid hll
  clear hc hq ok hnn hdd hll
  go_enter Tryz.func25, Tryz.ntmps25
  go_wp2_with fail
  refine (copyPlan _ _ p (HV.out.mono (below3 _ _ _ _)) HOK.out.next).mono ?_
  rintro e w1 ⟨v1, rfl, hp1, hb1⟩
  obtain ⟨av, os, rfl, ha1⟩ := hp1
  obtain ⟨g, cap, rfl⟩ := own_shape ha1.own (by rw [← HN.out]; exact hn)
  simp only [World.size_alloc] at ha1
  rw [← HN.out] at ha1
  have hqs := ha1.qs HOK.out.ask
  have hgL := hqs.gL
  have hgs := hqs.gs
  have hT4 := (Tri.new ((w.alloc (.cells #[.slice xa (planI p).asks.length xc, .int .i64 (planI p).depth, .int .i64 (planI p).lower] 29)).alloc (.cells #[.int .i64 q0, .int .i64 q1, .int .i64 q2] 49)) (.slice none 0 0) (.int .i64 0) (.int .i64 0) 29).mono hb1
  have hT3 := ((Tri.new (w.alloc (.cells #[.slice xa (planI p).asks.length xc, .int .i64 (planI p).depth, .int .i64 (planI p).lower] 29)) (.int .i64 q0) (.int .i64 q1) (.int .i64 q2) 49).mono (below1 _ _)).mono hb1
  have hz1 := hb1.size
  simp only [World.size_alloc] at hz1 hT4 hT3
  obtain ⟨e0, e1, e2, _, _⟩ := hT3
  have z3 : w.heap.size + 1 < w1.heap.size := by omega
  have z2 : w.heap.size < w1.heap.size := by omega
  have z4 : w.heap.size + 1 + 1 < w1.heap.size := by omega
  have hcap : n ≤ cap := by
    rcases own_cases ha1.own with ⟨h, _⟩ | ⟨_, _, h, _, _, h2, _⟩
    · cases h
    · simp only [Value.slice.injEq] at h; rw [h.2.2, HN.out]; exact h2
  rw [← HN.out, ← HDD.out, ← HLL.out]
  have HB1 := Lib.hid ((below3 _ _ _ _).trans (hb1.mono (by simp; omega)) : Below w.heap.size w w1)
  have HA1 := Lib.hid ha1; have HQS := Lib.hid hqs; have HT4 := Lib.hid hT4
  clear hb1 ha1 hqs hT4 hz1
  have n0 : ((n : Int) == 0) = false := by rw [beq_eq_false_iff_ne]; omega
  go_wp2_with fail
  refine (mod_call q1 n _ (by omega) (by omega)).mono ?_
  rintro e w2 ⟨rfl, rfl⟩
  obtain ⟨k, hk⟩ : ∃ k : Nat, q1 % n = k := ⟨(q1 % n).toNat, by have := Int.emod_nonneg q1 (show (n : Int) ≠ 0 by omega); omega⟩
  have hkn : k < n := by have := Int.emod_lt_of_pos q1 (show (0 : Int) < n by omega); omega
  rw [hk]
  have k0 : (0 : Int) ≤ k := by omega
  have k1 : (k : Int) < n := by omega
  obtain ⟨o, ho⟩ : ∃ o, os[k]? = some o := ⟨_, List.getElem?_eq_getElem (by have := HQS.out.len; rw [← HN.out] at this; omega)⟩
  obtain ⟨q, hqk⟩ : ∃ q, p.asks[k]? = some q := ⟨_, List.getElem?_eq_getElem (by rw [← HN.out]; omega)⟩
  have ha := HQS.out.at_ k o q ho hqk
  obtain ⟨oi, va, vn⟩ := o
  obtain ⟨xs, hxs⟩ : ∃ xs, xs = q.2.1 := ⟨_, rfl⟩
  obtain ⟨ns, hns⟩ : ∃ ns, ns = q.2.2 := ⟨_, rfl⟩
  rw [← hxs, ← hns] at ha
  obtain ⟨aa, ac, rfl, hac⟩ := ha.v.1.open
  obtain ⟨na, nc, rfl, hnc⟩ := ha.n.1.open
  have hxl := ha.v.2.1
  have hnl := ha.n.2.1
  have hnp : 0 < ns.length := by rw [hns]; exact List.length_pos_iff.2 (HOK.out.next q (List.mem_of_getElem? hqk))
  have hn12' : ns.length ≤ 1000 := by rw [hns]; exact (HOK.out.ask q (List.mem_of_getElem? hqk)).n.1
  have c0 := ha.c0; have c1 := ha.c1; have c2 := ha.c2
  simp only at c0 c1 c2
  have HXS := Lib.hid hxs; have HNS := Lib.hid hns
  have HA := Lib.hid ha; have HO := Lib.hid ho; have HQK := Lib.hid hqk
  clear hk ha ho hqk hxs hns
  go_wp2_with fail
  refine (mod_call q0 9 _ (by omega) (by omega)).mono ?_
  rintro e w2 ⟨rfl, rfl⟩
  rw [HC.out]
  obtain ⟨W7, hW7⟩ : ∃ W7, W7 = (w1.alloc (.cells #[.slice (some ⟨g, 0, none⟩) n cap, .int .i64 dp, .int .i64 lo] 29)).alloc (.cells #[.int .i64 oi, .slice aa xs.length ac, .slice na ns.length nc] 59) := ⟨_, rfl⟩
  rw [← hW7]
  have hb7 : Below w1.heap.size w1 W7 := by rw [hW7]; exact below2 _ _ _
  have hT5 := (Tri.new w1 (.slice (some ⟨g, 0, none⟩) n cap) (.int .i64 dp) (.int .i64 lo) 29).mono (below1 _ (.cells #[.int .i64 oi, .slice aa xs.length ac, .slice na ns.length nc] 59))
  have hT7 := Tri.new (w1.alloc (.cells #[.slice (some ⟨g, 0, none⟩) n cap, .int .i64 dp, .int .i64 lo] 29)) (.int .i64 oi) (.slice aa xs.length ac) (.slice na ns.length nc) 59
  rw [← hW7] at hT5 hT7
  simp only [World.size_alloc] at hT7
  have hT4 := HT4.out.mono hb7
  have f0 := (olds hb7 _ _ z3).trans e0
  have f1 := (olds hb7 _ _ z3).trans e1
  have f2 := (olds hb7 _ _ z3).trans e2
  have c0 := (olds hb7 _ _ hgs).trans c0
  have c1 := (olds hb7 _ _ hgs).trans c1
  have c2 := (olds hb7 _ _ hgs).trans c2
  have hA7 := HA1.out.below hb7
  have cf : ∀ o, W7.frozen? ⟨g, o, none⟩ = false := by have h := hA7.own; rw [← HN.out] at h; exact fun o => h.frozenAt o
  obtain ⟨a0, a1, a2, af, al⟩ := hT5
  obtain ⟨b0, b1, b2, bf, bl⟩ := hT7
  obtain ⟨t0, t1, t2, tf, tl⟩ := hT4
  have gl7 := Nat.lt_of_lt_of_le hgs hb7.size
  have f3 := Nat.lt_of_lt_of_le z3 hb7.size
  have HB7 := Lib.hid (bthen HB1.out hb7)
  have HA7 := Lib.hid hA7; have HW7 := Lib.hid hb7
  clear hW7 hb7 e0 e1 e2 hA7
  by_cases hx0 : xs.length ≤ 1
  · have x0 : ¬ (1 : Int) < xs.length := by omega
    go_wp2
    have HB7o := HB7.out
    refine bodyPost_ret (v := .agg #[.slice (some ⟨g, 0, none⟩) n cap, .int .i64 (dp), .int .i64 (lo)]) ?_ rfl ⟨_, rfl, PlanSome.mk ?_, (by repeat (first | with_reducible exact Below.refl _ _ | with_reducible assumption | with_reducible refine Below.drew ?_ | with_reducible refine Below.alloc ?_ (by first | omega | (simp; done) | (simp; omega)) _ | with_reducible refine Below.setCell ?_ (by first | omega | (simp; done) | (simp; omega)) _))⟩
    · simp [results, Tryz.results25, go_sem, t0, t1, t2, tf, tl]
    · have hq := HQS.out
      rw [HN.out] at hcap hn12 ⊢
      exact hq.same (B := 0) (by omega) hcap (by repeat (first | with_reducible exact (Tch.refl _ _ _ _).below HW7.out | with_reducible refine Tch.drew ?_ | refine Tch.set ?_ (by first | exact .inl (by omega) | exact .inr (.inl (by omega)) | exact .inr (.inr ⟨rfl, by omega⟩)) _))
  · have x0 : (1 : Int) < xs.length := by omega
    obtain ⟨_, ⟨zs, hzs, rowa1⟩, _⟩ := HA1.out.inn k _ q HO.out HQK.out
    obtain ⟨_, ⟨zs', hzs', rowa⟩, _⟩ := HA7.out.inn k _ q HO.out HQK.out
    simp only at rowa rowa1
    rw [← HXS.out] at hzs hzs'
    have hzl : zs.length = xs.length := by rw [← hzs, List.length_map]
    have hzl' : zs'.length = xs.length := by rw [← hzs', List.length_map]
    rw [hzl] at rowa1
    rw [hzl'] at rowa
    obtain ⟨gv, cv_, hgv⟩ := own_shape rowa (by omega)
    simp only [Value.slice.injEq, true_and] at hgv
    obtain ⟨rfl, rfl⟩ := hgv
    have df := fun o => rowa.frozenAt o
    obtain ⟨dL, dl⟩ := rowa1.lt gv rfl
    have d5 : gv < W7.heap.size := (rowa.lt gv rfl).2
    have hzs1 := hzs
    have hx10 := HA.out.v.2.2
    obtain ⟨vc0, vd0, p00, p01, p02, p03, p04, p05, p06⟩ : VAt W7 gv 0 (xs.getD 0 0) := by
      have := VAt.mono (at_own rowa1 hzs1 (k := 0) (by omega)) HW7.out dl
      exact this
    obtain ⟨y0, hy0⟩ : ∃ y, y = xs.getD 0 0 := ⟨_, rfl⟩
    rw [← hy0] at p00 p01 p02 p04
    simp only [Nat.zero_add, Nat.reduceAdd] at p00 p01 p02 p03 p04 p05 p06
    have hy010 : y0 ≤ 10 := by rw [hy0]; exact getD_le hx10 (by omega)
    obtain ⟨vc1, vd1, p10, p11, p12, p13, p14, p15, p16⟩ : VAt W7 gv 7 (xs.getD 1 0) := by
      have := VAt.mono (at_own rowa1 hzs1 (k := 1) (by omega)) HW7.out dl
      exact this
    obtain ⟨y1, hy1⟩ : ∃ y, y = xs.getD 1 0 := ⟨_, rfl⟩
    rw [← hy1] at p10 p11 p12 p14
    simp only [Nat.zero_add, Nat.reduceAdd] at p10 p11 p12 p13 p14 p15 p16
    have hy110 : y1 ≤ 10 := by rw [hy1]; exact getD_le hx10 (by omega)
    clear rowa rowa1 hzs hzs' hzl hzl' hzs1
    have x1 : (0 : Int) < xs.length := by omega
    have x1n : 0 < xs.length := by omega
    have HY0 := Lib.hid hy0; have HY1 := Lib.hid hy1
    clear hy0 hy1
    go_wp2_with fail
    obtain ⟨W8, hW8⟩ : ∃ W8, W8 = W7.alloc (.cells #[.int .i64 (kd y0), .string (st y0), .int .i64 (dn y0), .int .i64 0, .int .i64 (nn y0), .slice vc0 0 vd0, .slice none 0 0] 47) := ⟨_, rfl⟩
    rw [← hW8]
    have hb8 : Below W7.heap.size W7 W8 := by rw [hW8]; exact below1 _ _
    have s0 : W8.cell? ⟨W7.heap.size, 0, none⟩ = some (.int .i64 (kd y0)) := by rw [hW8]; simp
    have s1 : W8.cell? ⟨W7.heap.size, 1, none⟩ = some (.string (st y0)) := by rw [hW8]; simp
    have s2 : W8.cell? ⟨W7.heap.size, 2, none⟩ = some (.int .i64 (dn y0)) := by rw [hW8]; simp
    have s3 : W8.cell? ⟨W7.heap.size, 3, none⟩ = some (.int .i64 0) := by rw [hW8]; simp
    have s4 : W8.cell? ⟨W7.heap.size, 4, none⟩ = some (.int .i64 (nn y0)) := by rw [hW8]; simp
    have s5 : W8.cell? ⟨W7.heap.size, 5, none⟩ = some (.slice vc0 0 vd0) := by rw [hW8]; simp
    have s6 : W8.cell? ⟨W7.heap.size, 6, none⟩ = some (.slice none 0 0) := by rw [hW8]; simp
    have sl : W7.heap.size < W8.heap.size := by rw [hW8]; simp
    have a0 := (olds hb8 _ _ al).trans a0
    have a1 := (olds hb8 _ _ al).trans a1
    have a2 := (olds hb8 _ _ al).trans a2
    have b1 := (olds hb8 _ _ bl).trans b1
    have t0 := (olds hb8 _ _ tl).trans t0
    have t1 := (olds hb8 _ _ tl).trans t1
    have t2 := (olds hb8 _ _ tl).trans t2
    have p00 := (olds hb8 _ _ d5).trans p00
    have p01 := (olds hb8 _ _ d5).trans p01
    have p02 := (olds hb8 _ _ d5).trans p02
    have p03 := (olds hb8 _ _ d5).trans p03
    have p04 := (olds hb8 _ _ d5).trans p04
    have p05 := (olds hb8 _ _ d5).trans p05
    have p06 := (olds hb8 _ _ d5).trans p06
    have p10 := (olds hb8 _ _ d5).trans p10
    have p11 := (olds hb8 _ _ d5).trans p11
    have p12 := (olds hb8 _ _ d5).trans p12
    have p13 := (olds hb8 _ _ d5).trans p13
    have p14 := (olds hb8 _ _ d5).trans p14
    have p15 := (olds hb8 _ _ d5).trans p15
    have p16 := (olds hb8 _ _ d5).trans p16
    have df : ∀ o, W8.frozen? ⟨gv, o, none⟩ = false := fun o => (oldf hb8 _ _ d5).trans (df o)
    have tf : ∀ o, W8.frozen? ⟨w.heap.size + 1 + 1, o, none⟩ = false := fun o => (oldf hb8 _ _ tl).trans (tf o)
    have d5 := Nat.lt_of_lt_of_le d5 hb8.size
    have al := Nat.lt_of_lt_of_le al hb8.size
    have bl := Nat.lt_of_lt_of_le bl hb8.size
    have tl := Nat.lt_of_lt_of_le tl hb8.size
    have HW8 := Lib.hid (bthen HW7.out hb8)
    have HB8 := Lib.hid (bthen HB7.out hb8)
    clear hW8 hb8
    refine wp_region_still_tail 7 (by kernel_rfl) (by kernel_rfl) ?_
    simp only [List.take_succ_cons, List.take_zero, List.drop_succ_cons, List.drop_zero]
    change wpStill _ _ W8.drew _ _ _
    repeat still_step
    refine wpStill_nil ?_
    go_wp2
    have HB7o := HB8.out
    refine bodyPost_ret (v := .agg #[.slice (some ⟨g, 0, none⟩) n cap, .int .i64 dp, .int .i64 lo]) ?_ rfl ⟨_, rfl, PlanSome.mk ?_, (by repeat (first | with_reducible exact Below.refl _ _ | with_reducible assumption | with_reducible refine Below.drew ?_ | with_reducible refine Below.alloc ?_ (by first | omega | (simp; done) | (simp; omega)) _ | with_reducible refine Below.setCell ?_ (by first | omega | (simp; done) | (simp; omega)) _))⟩
    · simp [results, Tryz.results25, go_sem, t0, t1, t2, tf, tl]
    · have hq := HQS.out
      rw [HN.out] at hcap hn12 ⊢
      exact hq.swapped (by omega) hcap HO.out rfl dL HW8.out d5 hy010 hy110 p00 p01 p02 p03 p04 p05 p06 p10 p11 p12 p13 p14 p15 p16 (by repeat (first | with_reducible exact Tch.refl _ _ _ _ | with_reducible refine Tch.drew ?_ | refine Tch.set ?_ (.inr (.inl (by omega))) _))
set_option maxRecDepth 100000 in
set_option maxHeartbeats 1000000 in
theorem Bent_nil (w : World) (v : Value) (p : PlanS) (q0 q1 q2 : Int) (hv : PlanAt w v (planI p)) (ok : PlanOk p) (hn : p.asks.length = 0) (hq2 : -9223372036854775808 ≤ q2 ∧ q2 ≤ 9223372036854775807) :
    Calls Tryz.prog 25 #[v, .agg #[.int .i64 q0, .int .i64 q1, .int .i64 q2]] w (BentPost w) := by
  have HV := Lib.hid hv
  obtain ⟨qv, rfl, hq⟩ := hv
  obtain ⟨xa, xc, rfl, _⟩ := hq.1.open
  have HOK := Lib.hid ok
  have HN := Lib.hid hn
  have hdp := ok.d; have hlo := ok.l
  obtain ⟨dp, hdd⟩ : ∃ dp, dp = p.depth := ⟨_, rfl⟩
  obtain ⟨lo, hll⟩ : ∃ lo, lo = p.lower := ⟨_, rfl⟩
  rw [← hdd] at hdp; rw [← hll] at hlo
  have HDD := Lib.hid hdd; have HLL := Lib.hid hll
  clear hq ok hdd hll hn
  go_enter Tryz.func25, Tryz.ntmps25
  go_wp2_with fail
  refine (copyPlan _ _ p (HV.out.mono (below3 _ _ _ _)) HOK.out.next).mono ?_
  rintro e w1 ⟨v1, rfl, hp1, hb1⟩
  obtain ⟨av, os, rfl, ha1⟩ := hp1
  have hown := ha1.own
  rw [HN.out] at hown
  obtain ⟨aa, cap, rfl⟩ := own_slice hown
  have hT4 := (Tri.new ((w.alloc (.cells #[.slice xa (planI p).asks.length xc, .int .i64 (planI p).depth, .int .i64 (planI p).lower] 29)).alloc (.cells #[.int .i64 q0, .int .i64 q1, .int .i64 q2] 49)) (.slice none 0 0) (.int .i64 0) (.int .i64 0) 29).mono hb1
  have hT3 := ((Tri.new (w.alloc (.cells #[.slice xa (planI p).asks.length xc, .int .i64 (planI p).depth, .int .i64 (planI p).lower] 29)) (.int .i64 q0) (.int .i64 q1) (.int .i64 q2) 49).mono (below1 _ _)).mono hb1
  have hz1 := hb1.size
  simp only [World.size_alloc] at hz1 hT4 hT3
  obtain ⟨e0, e1, e2, _, _⟩ := hT3
  have z3 : w.heap.size + 1 < w1.heap.size := by omega
  have z2 : w.heap.size < w1.heap.size := by omega
  have z4 : w.heap.size + 1 + 1 < w1.heap.size := by omega
  rw [← HDD.out, ← HLL.out]
  obtain ⟨W7, hW7⟩ : ∃ W7, W7 = w1.alloc (.cells #[.slice aa 0 cap, .int .i64 dp, .int .i64 lo] 29) := ⟨_, rfl⟩
  have hb7 : Below w1.heap.size w1 W7 := by rw [hW7]; exact below1 _ _
  have hT5 := Tri.new w1 (.slice aa 0 cap) (.int .i64 dp) (.int .i64 lo) 29
  rw [← hW7] at hT5
  have hT4 := hT4.mono hb7
  have f0 := (olds hb7 _ _ z3).trans e0
  have f1 := (olds hb7 _ _ z3).trans e1
  have f3 := Nat.lt_of_lt_of_le z3 hb7.size
  obtain ⟨a0, a1, a2, af, al⟩ := hT5
  obtain ⟨t0, t1, t2, tf, tl⟩ := hT4
  have HB7 := Lib.hid (bthen ((below3 _ _ _ _).trans (hb1.mono (by simp; omega)) : Below w.heap.size w w1) hb7)
  have HW7 := Lib.hid hW7
  clear hb1 ha1 hz1 hown hb7 e0 e1 e2 hW7
  obtain ⟨m, hm⟩ : ∃ m, m = q0 % 2 := ⟨_, rfl⟩
  have hm0 : 0 ≤ m := by rw [hm]; exact Int.emod_nonneg q0 (by omega)
  have hm3 : m < 2 := by rw [hm]; exact Int.emod_lt_of_pos q0 (by omega)
  obtain ⟨r, hr⟩ : ∃ r, r = q1 % 2 := ⟨_, rfl⟩
  have hr0 : 0 ≤ r := by rw [hr]; exact Int.emod_nonneg q1 (by omega)
  have hr3 : r < 2 := by rw [hr]; exact Int.emod_lt_of_pos q1 (by omega)
  have HM := Lib.hid hm; have HR := Lib.hid hr
  clear hm hr
  go_wp2_with fail
  rw [← HW7.out]
  refine wp_region_still_tail 7 (by kernel_rfl) (by kernel_rfl) ?_
  simp only [List.take_succ_cons, List.take_zero, List.drop_succ_cons, List.drop_zero]
  change wpStill _ _ W7.drew _ _ _
  repeat still_step
  refine wpStill_step (fun K hK => ?_)
  go_simp
  refine ⟨_, mod_still q0 2 _ (by omega) (by omega), hK _ ?_⟩
  clear hK K
  rw [← HM.out]
  repeat still_step
  refine wpStill_nil ?_
  go_wp2_with fail
  obtain ⟨W8, hW8⟩ : ∃ W8, W8 = (W7.setCell ⟨w1.heap.size, 1, none⟩ (.int .i64 ((dp : Int) + m))).drew := ⟨_, rfl⟩
  have g0 : W8.cell? ⟨w1.heap.size, 0, none⟩ = some (.slice aa 0 cap) := by rw [hW8]; exact (cset_off (by omega)).trans a0
  have g1 : W8.cell? ⟨w1.heap.size, 1, none⟩ = some (.int .i64 ((dp : Int) + m)) := by rw [hW8]; exact cset_same a1
  have g2 : W8.cell? ⟨w1.heap.size, 2, none⟩ = some (.int .i64 lo) := by rw [hW8]; exact (cset_off (by omega)).trans a2
  have h0 : W8.cell? ⟨w.heap.size + 1, 0, none⟩ = some (.int .i64 q0) := by rw [hW8]; exact (cset_block (by omega)).trans f0
  have h1 : W8.cell? ⟨w.heap.size + 1, 1, none⟩ = some (.int .i64 q1) := by rw [hW8]; exact (cset_block (by omega)).trans f1
  have s0 : W8.cell? ⟨w.heap.size + 1 + 1, 0, none⟩ = some (.slice none 0 0) := by rw [hW8]; exact (cset_block (by omega)).trans t0
  have s1 : W8.cell? ⟨w.heap.size + 1 + 1, 1, none⟩ = some (.int .i64 0) := by rw [hW8]; exact (cset_block (by omega)).trans t1
  have s2 : W8.cell? ⟨w.heap.size + 1 + 1, 2, none⟩ = some (.int .i64 0) := by rw [hW8]; exact (cset_block (by omega)).trans t2
  have hb8 : Below w.heap.size w W8 := by rw [hW8]; have := HB7.out; exact (by repeat (first | with_reducible exact Below.refl _ _ | with_reducible assumption | with_reducible refine Below.drew ?_ | with_reducible refine Below.alloc ?_ (by first | omega | (simp; done) | (simp; omega)) _ | with_reducible refine Below.setCell ?_ (by first | omega | (simp; done) | (simp; omega)) _))
  have gf : ∀ o, W8.frozen? ⟨w1.heap.size, o, none⟩ = false := by rw [hW8]; intro o; go_simp
  have sf : ∀ o, W8.frozen? ⟨w.heap.size + 1 + 1, o, none⟩ = false := by rw [hW8]; intro o; go_simp
  have hs8 : W8.heap.size = W7.heap.size := by rw [hW8]; simp
  have gl : w1.heap.size < W8.heap.size := by rw [hs8]; exact al
  have sl : w.heap.size + 1 + 1 < W8.heap.size := by rw [hs8]; exact tl
  have f8 : w.heap.size + 1 < W8.heap.size := by rw [hs8]; exact f3
  have HB8 := Lib.hid hb8
  rw [← hW8]
  clear hW8 hs8 a0 a1 a2 f0 f1 t0 t1 t2 af tf al tl f3 hb8
  refine wp_region_still_tail 7 (by kernel_rfl) (by kernel_rfl) ?_
  simp only [List.take_succ_cons, List.take_zero, List.drop_succ_cons, List.drop_zero]
  change wpStill _ _ W8.drew _ _ _
  repeat still_step
  refine wpStill_step (fun K hK => ?_)
  go_simp
  refine ⟨_, mod_still q1 2 _ (by omega) (by omega), hK _ ?_⟩
  clear hK K
  rw [← HR.out]
  repeat still_step
  refine wpStill_nil ?_
  go_wp2
  have HB8o := HB8.out
  refine bodyPost_ret (v := .agg #[.slice aa 0 cap, .int .i64 ((dp : Int) + m), .int .i64 ((lo : Int) + r)]) ?_ rfl ⟨_, rfl, PlanSome.mk ?_, (by repeat (first | with_reducible exact Below.refl _ _ | with_reducible assumption | with_reducible refine Below.drew ?_ | with_reducible refine Below.alloc ?_ (by first | omega | (simp; done) | (simp; omega)) _ | with_reducible refine Below.setCell ?_ (by first | omega | (simp; done) | (simp; omega)) _))⟩
  · simp [results, Tryz.results25, go_sem, s0, s1, s2, sf, sl]
  · exact ⟨[], ⟨aa, cap, rfl, by simp, fun h => absurd rfl h⟩, by simp, by simp⟩
theorem Bent_call (w : World) (v : Value) (p : PlanS) (q0 q1 q2 : Int) (hv : PlanAt w v (planI p)) (ok : PlanOk p) (hq2 : -9223372036854775808 ≤ q2 ∧ q2 ≤ 9223372036854775807) :
    Calls Tryz.prog 25 #[v, .agg #[.int .i64 q0, .int .i64 q1, .int .i64 q2]] w (BentPost w) := by
  by_cases hn : p.asks.length = 0
  · exact Bent_nil w v p q0 q1 q2 hv ok hn hq2
  · have h1 := Int.emod_nonneg q0 (show (9 : Int) ≠ 0 by omega)
    have h2 := Int.emod_lt_of_pos q0 (show (0 : Int) < 9 by omega)
    have hn : 0 < p.asks.length := by omega
    have hc : q0 % 9 = 0 ∨ q0 % 9 = 1 ∨ q0 % 9 = 2 ∨ q0 % 9 = 3 ∨ q0 % 9 = 4 ∨ q0 % 9 = 5 ∨ q0 % 9 = 6 ∨ q0 % 9 = 7 ∨ q0 % 9 = 8 := by omega
    rcases hc with hc | hc | hc | hc | hc | hc | hc | hc | hc
    · exact Bent_0 w v p q0 q1 q2 hv ok hn hc hq2
    · exact Bent_1 w v p q0 q1 q2 hv ok hn hc hq2
    · exact Bent_2 w v p q0 q1 q2 hv ok hn hc hq2
    · exact Bent_3 w v p q0 q1 q2 hv ok hn hc hq2
    · exact Bent_4 w v p q0 q1 q2 hv ok hn hc hq2
    · exact Bent_5 w v p q0 q1 q2 hv ok hn hc hq2
    · exact Bent_6 w v p q0 q1 q2 hv ok hn hc hq2
    · exact Bent_7 w v p q0 q1 q2 hv ok hn hc hq2
    · exact Bent_8 w v p q0 q1 q2 hv ok hn hc hq2
end Go.Proofs.YtoiemkifgdnhaaaGreatDoor
