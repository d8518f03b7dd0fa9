/- Copies by the reference. Conditions: each value is one of the eleven. -/
import Derived.Test.YtoiemkifgdnhaaaGreatDoorT1
import Derived.Deep.RegionHeldLaw
namespace Go.Proofs.YtoiemkifgdnhaaaGreatDoor
open Go Go.RowKit
set_option maxHeartbeats 400000 in
theorem copy06 (x : Nat) (c : Option Addr) (m : Nat) (w : World) : Calls Tryz.prog 70 #[va x c m] w (CopyOf x w) := by
  cases c with
  | none =>
    go_enter Tryz.func70, Tryz.ntmps70
    go_wp2
    refine wp_loop_rounds 1 ?_; rw [rounds_succ]
    go_wp2
    exact bodyPost_ret (v := va x (some ⟨w.heap.size + 1 + 1 + 1, 0, none⟩) 0) (by simp [results, Tryz.results70, go_sem, va]) rfl ⟨_, _, rfl, (by repeat (first | with_reducible exact Below.refl _ _ | with_reducible assumption | with_reducible refine Below.drew ?_ | with_reducible refine Below.alloc ?_ (by first | omega | (simp; done) | (simp; omega)) _ | with_reducible refine Below.setCell ?_ (by first | omega | (simp; done) | (simp; omega)) _))⟩
  | some a =>
    go_enter Tryz.func70, Tryz.ntmps70
    go_wp2
    refine wp_loop_rounds 1 ?_; rw [rounds_succ]
    go_wp2
    exact bodyPost_ret (v := va x (some ⟨w.heap.size + 1 + 1 + 1, 0, none⟩) 0) (by simp [results, Tryz.results70, go_sem, va]) rfl ⟨_, _, rfl, (by repeat (first | with_reducible exact Below.refl _ _ | with_reducible assumption | with_reducible refine Below.drew ?_ | with_reducible refine Below.alloc ?_ (by first | omega | (simp; done) | (simp; omega)) _ | with_reducible refine Below.setCell ?_ (by first | omega | (simp; done) | (simp; omega)) _))⟩
def RowPost (xs : List Nat) (w : World) (e : Ending) (w' : World) : Prop := ∃ v' zs, e = .returned v' ∧ zs.map (·.1) = xs ∧ w'.ownsRow w.heap.size 47 7 v' xs.length (cvs zs) ∧ Below w.heap.size w w'
set_option maxHeartbeats 400000 in
theorem copyRow (w : World) (v : Value) (xs : List Nat) (hv : Vals w v xs) : Calls Tryz.prog 63 #[v] w (RowPost xs w) := by
  have HV := Lib.hid hv
  obtain ⟨ao, ac, rfl, hv1⟩ := hv.1.open
  have hv2 := hv.2.1
  obtain ⟨j0, ji, jz0, jz1, jz2⟩ := info_parts info_value
  have Ji := Lib.hid ji; have Jz0 := Lib.hid jz0; have Jz1 := Lib.hid jz1; have Jz2 := Lib.hid jz2
  clear hv ji jz0 jz1 jz2
  go_enter Tryz.func63, Tryz.ntmps63
  go_wp2
  go_loopw [3, 4] (fun o i wr => ∃ (k : Nat) (zs : List ZV), k ≤ xs.length ∧ i = .int .i64 k ∧ zs.map (·.1) = xs.take k ∧ wr.ownsRow w.heap.size 47 7 o k (cvs zs) ∧ Below w.heap.size w wr) (fun _ i _ => xs.length - (intOf i).toNat)
  case atStart => exact ⟨0, [], by omega, rfl, rfl, World.ownsRow_nil _ _ _ _, Below.refl _ _⟩
  case round =>
    obtain ⟨k, zs, hk, rfl, hzs, ho, hbel⟩ := hrel
    have HO := Lib.hid ho; have HBL := Lib.hid hbel; have HZS := Lib.hid hzs
    by_cases hlt : k < xs.length
    · have h1 : (k:Int) < xs.length := by omega
      have h0 : 0 ≤ (k:Int) := by omega
      obtain ⟨b1, o1, rfl, g1, hva⟩ := (HV.out.mono hbel).1.at hlt
      obtain ⟨x, hx⟩ : ∃ x, x = xs.getD k 0 := ⟨_, rfl⟩
      rw [← hx] at hva
      obtain ⟨vc, vd, v0, v1, v2, v3, v4, v5, v6⟩ := hva
      obtain ⟨oa, oc, rfl⟩ := own_slice ho
      have HX := Lib.hid hx
      clear ho hbel hzs hx
      go_wp2_with (first | (go_at_call 70; refine (copy06 x vc vd _).mono ?_; rintro e w1 ⟨c1, d1, rfl, hb1⟩) | (at_builtin; refine wpList_app rfl (.tmp 11) (.tmp 17) 42 rfl w.heap.size 47 j0 _ 7 96 und_vals Ji.out Jz0.out Jz1.out Jz2.out rfl (by decide) _ _ _ rfl ((own_below HO.out hb1).alloc (.cells (cv (x, c1, d1)).toArray 47)) ⟨w1.heap.size, 0, none⟩ 1 1 (cv (x, c1, d1)) rfl rfl (One.cells (heap_alloc_new w1 (.cells (cv (x, c1, d1)).toArray 47))) (cvs_one' (x, c1, d1)) (by unfold maxLen; omega) (by omega) (by have := HBL.out.size; have := hb1.size; simp; omega) ?_; intro v' w9 hown hgr hfr))
      have hb2 := bthen HBL.out hb1
      refine ⟨⟨k + 1, zs ++ [(x, c1, d1)], by omega, by go_num, ?_, ?_, (hb2.alloc hb2.size _).grown hgr (by have := hb2.size; simp; omega) (fun g hg => (HO.out.lt g hg).1)⟩, by simp [intOf]; omega⟩
      · have e : x = xs[k] := by rw [HX.out, List.getD_eq_getElem?_getD, List.getElem?_eq_getElem hlt]; rfl
        rw [List.map_append, HZS.out, List.take_add_one, List.getElem?_eq_getElem hlt]
        show _ ++ [x] = _ ++ [xs[k]]
        rw [e]
      · rw [cvs_snoc]; exact hown
    · obtain rfl : k = xs.length := by omega
      clear ho hbel hzs
      go_wp2
      go_ret
      exact ⟨_, zs, rfl, by rw [HZS.out, List.take_length], HO.out, HBL.out⟩
end Go.Proofs.YtoiemkifgdnhaaaGreatDoor
