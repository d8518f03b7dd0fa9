/- Rows of values compared; which programs of a list are alike. Conditions: each value is one of the eleven. -/
import Derived.Test.YtoiemkifgdnhaaaGreatDoorL10
namespace Go.Proofs.YtoiemkifgdnhaaaGreatDoor
open Go Go.RowKit
set_option maxHeartbeats 400000 in
theorem equalFunc_vals (w : World) (a b : Value) (xs ys : List Nat) (ha : Vals w a xs) (hb : Vals w b ys) : Calls Tryz.prog 71 #[a, b, .func (.func 60) #[] #[]] w
    fun e w' => e = .returned (.bool (xs == ys)) ∧ Below w.heap.size w w' := by
  have HA := Lib.hid ha; have HB := Lib.hid hb
  obtain ⟨ao, ac, rfl, ha1⟩ := ha.1.open
  obtain ⟨bo, bc, rfl, hb1⟩ := hb.1.open
  have ha2 := ha.2.1; have hb2 := hb.2.1
  clear ha hb
  by_cases hl : xs.length = ys.length
  · have hl' : ((xs.length : Int) != ys.length) = false := by simp [hl]
    have HL := Lib.hid hl; clear hl
    go_enter Tryz.func71, Tryz.ntmps71
    go_wp2
    go_loopw [7, 8, 9, 17] (fun u u8 u9 i wr => ∃ k : Nat, k ≤ xs.length ∧ i = .int .i64 k ∧ xs.take k = ys.take k ∧ Below w.heap.size w wr) (fun _ _ _ i _ => xs.length - (intOf i).toNat)
    case atStart => exact ⟨0, by omega, rfl, by simp, Below.refl _ _⟩
    case round =>
      obtain ⟨k, hk, rfl, he, hbel⟩ := hrel
      have HR := Lib.hid he; have HBL := Lib.hid hbel
      by_cases hlt : k < xs.length
      · have h1 : (k:Int) < xs.length := by omega
        have hl1 := HL.out
        have h2 : (k:Int) < ys.length := by omega
        have h0 : 0 ≤ (k:Int) := by omega
        have va := HA.out.mono hbel
        have vb := HB.out.mono hbel
        obtain ⟨b1, o1, rfl, g1, c1, d1, p0, p1, p2, p3, p4, p5, p6⟩ := va.1.at hlt
        obtain ⟨b2, o2, rfl, g2, c2, d2, q0, q1, q2, q3, q4, q5, q6⟩ := vb.1.at (show k < ys.length by omega)
        have hx : xs.getD k 0 ≤ 10 := getD_le va.2.2 hlt
        have hy : ys.getD k 0 ≤ 10 := getD_le vb.2.2 (by omega)
        clear va vb hl1 he hbel
        generalize hgx : xs.getD k 0 = x at *
        generalize hgy : ys.getD k 0 = y at *
        have HX := Lib.hid hgx; have HY := Lib.hid hgy; clear hgx hgy
        have hg2 : b2 < wr.heap.size + 1 := by omega
        go_wp2_with (go_at_call 60; refine (value_equal _ _ _ _ _ _ _ hx hy).mono ?_; rintro e w1 ⟨rfl, hbw0⟩; have hbw := bthen (below2 wr _ _) hbw0; clear hbw0)
        · go_ret
          have : ¬ x = y := by simp_all
          exact ⟨ret_bool (beq_false_of (d := 0) (by rw [HX.out, HY.out]; exact this)).symm, bthen HBL.out hbw⟩
        · go_roundw
          case rel =>
            have : x = y := by simp_all
            exact ⟨k + 1, by omega, by go_num, take_succ_of HR.out hlt (by have := HL.out; omega) (by rw [HX.out, HY.out]; exact this), bthen HBL.out hbw⟩
          case measure => simp [intOf]; omega
      · clear he hbel
        go_wp2
        go_ret
        obtain rfl : k = xs.length := by omega
        exact ⟨ret_bool (beq_of_take HL.out HR.out).symm, HBL.out⟩
  · have hl' : ((xs.length : Int) != ys.length) = true := by simp; omega
    have HL := Lib.hid hl; clear hl
    go_enter Tryz.func71, Tryz.ntmps71
    go_wp2
    go_ret
    exact ⟨ret_bool (beq_false_len HL.out).symm, Below.refl _ _⟩
/-- All programs of a list have the values of its first one. -/
def alikeS (A : List (List Nat)) (l : List Nat) : Bool := l.all fun p => A.getD p [] == A.getD (l.getD 0 0) []
theorem pInts_getD {l : List Nat} {k : Nat} (h : k < l.length) : (pInts l).getD k 0 = (l.getD k 0 : Nat) := by
  simp [pInts, List.getD_eq_getElem?_getD, h]
theorem pInts_len (l : List Nat) : (pInts l).length = l.length := by simp [pInts]
set_option maxHeartbeats 400000 in
theorem alike_call (w : World) (a b : Value) (A : List (List Nat)) (l : List Nat) (ha : ValRows w a A) (hb : Ints w b (pInts l)) (hl : ∀ p ∈ l, p < A.length) : Calls Tryz.prog 43 #[a, b] w
    fun e w' => e = .returned (.bool (alikeS A l)) ∧ Below w.heap.size w w' := by
  have HA := Lib.hid ha; have HB := Lib.hid hb; have HLT := Lib.hid hl
  obtain ⟨ao, ac, rfl, ha1⟩ := ha.1.open
  obtain ⟨bo, bc, rfl, hb1⟩ := hb.1.open
  have ha2 := ha.2; have hb2 := hb.2.1
  rw [pInts_len] at *
  clear ha hb hl
  go_enter Tryz.func43, Tryz.ntmps43
  go_wp2
  go_loopw [6, 9] (fun u i wr => ∃ k : Nat, k ≤ l.length ∧ i = .int .i64 k ∧ (∀ j, j < k → A.getD (l.getD j 0) [] = A.getD (l.getD 0 0) []) ∧ Below w.heap.size w wr) (fun _ i _ => l.length - (intOf i).toNat)
  case atStart => exact ⟨0, by omega, rfl, fun j h => by omega, Below.refl _ _⟩
  case round =>
    obtain ⟨k, hk, rfl, he, hbel⟩ := hrel
    have HR := Lib.hid he; have HBL := Lib.hid hbel
    by_cases hlt : k < l.length
    · have h1 : (k:Int) < l.length := by omega
      have h3 : (0:Int) < l.length := by omega
      have h5 : 0 < l.length := by omega
      have h0 : 0 ≤ (k:Int) := by omega
      have va := HA.out.mono hbel
      have vb := HB.out.mono hbel
      obtain ⟨b1, o1, rfl, g1, p0⟩ := vb.1.at (show k < (pInts l).length by rw [pInts_len]; exact hlt)
      obtain ⟨b2, o2, hbo, g2, q0⟩ := vb.1.at (show 0 < (pInts l).length by rw [pInts_len]; omega)
      simp only [Option.some.injEq, Addr.mk.injEq, and_true] at hbo
      obtain ⟨rfl, rfl⟩ := hbo
      rw [pInts_getD hlt] at p0
      rw [pInts_getD (show 0 < l.length by omega)] at q0
      have hp1 : l.getD k 0 < A.length := HLT.out _ (by rw [List.getD_eq_getElem?_getD, List.getElem?_eq_getElem hlt]; exact List.getElem_mem _)
      have hp2 : l.getD 0 0 < A.length := HLT.out _ (by rw [List.getD_eq_getElem?_getD, List.getElem?_eq_getElem (show 0 < l.length by omega)]; exact List.getElem_mem _)
      simp only [Nat.mul_one, Nat.zero_mul, Nat.add_zero] at p0 q0
      generalize hgx : l.getD k 0 = x at *
      generalize hgy : l.getD 0 0 = y at *
      obtain ⟨b3, o3, rfl, g3, ra, rc, r0, r1⟩ := va.1.at hp1
      obtain ⟨b4, o4, hbo, g4, sa, sc, s0, s1⟩ := va.1.at hp2
      simp only [Option.some.injEq, Addr.mk.injEq, and_true] at hbo
      obtain ⟨rfl, rfl⟩ := hbo
      have HR1 := Lib.hid r1; have HS1 := Lib.hid s1
      simp only [Nat.mul_one] at r0 s0
      have e1 : (x : Int) < A.length := by omega
      have e2 : (y : Int) < A.length := by omega
      have e3 : 0 ≤ (x : Int) := by omega
      have e4 : 0 ≤ (y : Int) := by omega
      have HX := Lib.hid hgx; have HY := Lib.hid hgy
      clear va vb he hbel hgx hgy r1 s1
      generalize hgu : A.getD x [] = u at *
      generalize hgv : A.getD y [] = v at *
      have HU := Lib.hid hgu; have HV := Lib.hid hgv
      clear hgu hgv
      go_wp2
      go_region_held3 (fun w' => ∀ b o, b < wr.heap.size → w'.cell? ⟨b, o, none⟩ = wr.cell? ⟨b, o, none⟩) (first | exact olds (Below.refl _ _) | exact olds ((Below.refl _ _).drew) | exact olds ‹Below wr.heap.size wr _›)  (first | (go_at_call 71; refine (equalFunc_vals _ _ _ _ _ (HR1.out.mono (Below.refl _ _).drew) (HS1.out.mono (Below.refl _ _).drew)).mono ?_; rintro e w1 ⟨rfl, hbw0⟩; have hbw := bdrew hbw0; clear hbw0))
      go_wp2
      · go_ret
        have hne : ¬ u = v := by simp_all
        refine ⟨ret_bool ?_, bthen HBL.out hbw⟩
        have : alikeS A l = false := by
          unfold alikeS; rw [List.all_eq_false]
          refine ⟨x, by rw [← HX.out, List.getD_eq_getElem?_getD, List.getElem?_eq_getElem hlt]; exact List.getElem_mem _, ?_⟩
          rw [HY.out, HU.out, HV.out]; simpa using hne
        exact this.symm
      · have heq : u = v := by simp_all
        go_roundw
        case rel =>
          refine ⟨k + 1, by omega, by go_num, fun j hj => ?_, bthen HBL.out hbw⟩
          by_cases hjk : j = k
          · subst hjk; rw [HX.out, HU.out, heq]
          · rw [HR.out j (by omega)]
        case measure => simp [intOf]; omega
    · clear he hbel
      go_wp2
      go_ret
      obtain rfl : k = l.length := by omega
      refine ⟨ret_bool ?_, HBL.out⟩
      have : alikeS A l = true := by
        unfold alikeS; rw [List.all_eq_true]
        intro p hp
        obtain ⟨j, hj, rfl⟩ := List.getElem_of_mem hp
        have := HR.out j hj
        have e : l.getD j 0 = l[j] := by simp [List.getD_eq_getElem?_getD, hj]
        rw [e] at this
        simpa using this
      exact this.symm
end Go.Proofs.YtoiemkifgdnhaaaGreatDoor
