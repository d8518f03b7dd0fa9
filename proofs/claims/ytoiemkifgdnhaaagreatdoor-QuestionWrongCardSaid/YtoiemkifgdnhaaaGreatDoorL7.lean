/- The program's Equal and Copy. Conditions: each value is one of the eleven.
  One value is less than another as its number is. Conditions: each value is one of the eleven; the table of powers holds powers.
  One value is less than another as its number is: Less and compare. Conditions: each value is one of the eleven; the table of powers holds powers. -/
import Derived.Test.YtoiemkifgdnhaaaGreatDoorL4
import Derived.WalkSpells
import Derived.Test.YtoiemkifgdnhaaaGreatDoorL3
namespace Go.Proofs.YtoiemkifgdnhaaaGreatDoor
open Go Go.RowKit
set_option maxHeartbeats 400000 in
theorem sequal_nil (c d : Option Addr) (m n : Nat) (w : World) : Calls Tryz.prog 84 #[.slice c 0 m, .slice d 0 n] w fun e w' => e = .returned (.bool true) ∧ w = w' := by
  go_enter Tryz.func84, Tryz.ntmps84
  go_wp2
  refine wp_loop_rounds 1 ?_; rw [rounds_succ]
  go_wp2
  go_ret
  exact ⟨rfl, rfl⟩
set_option maxHeartbeats 400000 in
theorem rowsEqualFunc_nil (v : Value) (w : World) : Calls Tryz.prog 111 #[.slice none 0 0, .slice none 0 0, v] w fun e w' => e = .returned (.bool true) ∧ w = w' := by
  go_enter Tryz.func111, Tryz.ntmps111
  go_wp2
  refine wp_loop_rounds 1 ?_; rw [rounds_succ]
  go_wp2
  go_ret
  exact ⟨rfl, rfl⟩
set_option maxHeartbeats 400000 in
theorem all_nil (v : Value) (w : World) : Calls Tryz.prog 85 #[.slice none 0 0, .slice none 0 0, v] w fun e w' => e = .returned (.bool true) ∧ w = w' := by
  go_enter Tryz.func85, Tryz.ntmps85
  go_wp2_with (go_at_call 111; refine (rowsEqualFunc_nil _ _).mono ?_; rintro e w' ⟨rfl, rfl⟩)
  go_ret
  exact ⟨rfl, rfl⟩
set_option maxHeartbeats 400000 in
theorem value_equal (x y : Nat) (c d : Option Addr) (m n : Nat) (w : World) (hx : x ≤ 10) (hy : y ≤ 10) : Calls Tryz.prog 60 #[va x c m, va y d n] w fun e w' => e = .returned (.bool (x == y)) ∧ Below w.heap.size w w' := by
  go_enter Tryz.func60, Tryz.ntmps60
  go_wp2_with (first | (go_at_call 84; refine (sequal_nil _ _ _ _ _).mono ?_; rintro e w' ⟨rfl, rfl⟩) | (go_at_call 85; refine (all_nil _ _).mono ?_; rintro e w' ⟨rfl, rfl⟩))
  all_goals go_ret
  all_goals refine ⟨ret_bool ?_, below2 _ _ _⟩
  all_goals first
    | exact (beq_iff_eq.2 (v_inj hx hy ‹_› ‹_› ‹_› ‹_›)).symm
    | (have e : ¬ x = y := by rintro rfl; simp_all
       simp [e])
theorem eql_nil {P : Program} (w : World) (t e : TypeId) (a : Option Addr) (n c : Nat) (h : P.underlying t = some (.slice e)) :
    (binOp .eql t (.slice a n c) (.slice none 0 0)).run P w = .ok (.bool a.isNone) w := by
  simp only [binOp]
  simp [Op.equal, Op.maxDepth, Lib.run_equalIn_slice_nil w 9999 t e a n c 0 0 h]
theorem info_string : (Tryz.prog.info? 9).map (fun i => (i.zero, i.size, i.bytes)) = some (some (.string ⟨#[]⟩), 1, 16) := by kernel_rfl
def EmptyS (w : World) (e : Ending) (w' : World) : Prop := ∃ c d, e = .returned (.slice c 0 d) ∧ Below w.heap.size w w'
set_option maxHeartbeats 400000 in
theorem clone_str (c : Option Addr) (m : Nat) (w : World) : Calls Tryz.prog 89 #[.slice c 0 m] w (EmptyS w) := by
  cases c with
  | none =>
    have hn := fun w n c => eql_nil (P := Tryz.prog) w 45 9 none n c (by kernel_rfl)
    go_enter Tryz.func89, Tryz.ntmps89
    go_wp2
    go_ret
    exact ⟨none, 0, rfl, Below.refl _ _⟩
  | some a =>
    have hn := fun w n c => eql_nil (P := Tryz.prog) w 45 9 (some a) n c (by kernel_rfl)
    go_enter Tryz.func89, Tryz.ntmps89
    go_wp2
    go_ret
    exact ⟨_, _, rfl, (by repeat (first | with_reducible exact Below.refl _ _ | with_reducible assumption | with_reducible refine Below.drew ?_ | with_reducible refine Below.alloc ?_ (by first | omega | (simp; done) | (simp; omega)) _ | with_reducible refine Below.setCell ?_ (by first | omega | (simp; done) | (simp; omega)) _))⟩
def CopyOf (x : Nat) (w : World) (e : Ending) (w' : World) : Prop := ∃ c d, e = .returned (va x c d) ∧ Below w.heap.size w w'
set_option maxHeartbeats 400000 in
theorem value_copy (x : Nat) (c : Option Addr) (m : Nat) (w : World) : Calls Tryz.prog 66 #[va x c m] w (CopyOf x w) := by
  have hs : w.heap.size < w.heap.size + 1 + 1 := by omega
  go_enter Tryz.func66, Tryz.ntmps66
  go_wp2_with (go_at_call 89; refine (clone_str _ _ _).mono ?_; rintro e w3 ⟨c', d', rfl, hb⟩; have hc := olds hb; have hf := oldf hb; have hz := hb.size)
  refine wp_loop_rounds 1 ?_; rw [rounds_succ]
  go_wp2
  have hb0 := bthen (below2 _ _ _) hb
  have hz0 : w.heap.size + 2 ≤ w3.heap.size := by simpa using hz
  exact bodyPost_ret (v := va x c' d') (by simp [results, Tryz.results66, go_sem, hc, hs, va]) rfl ⟨c', d', rfl, (by repeat (first | with_reducible exact Below.refl _ _ | with_reducible assumption | with_reducible refine Below.drew ?_ | with_reducible refine Below.alloc ?_ (by first | omega | (simp; done) | (simp; omega)) _ | with_reducible refine Below.setCell ?_ (by first | omega | (simp; done) | (simp; omega)) _))⟩
end Go.Proofs.YtoiemkifgdnhaaaGreatDoor
namespace Go.Proofs.YtoiemkifgdnhaaaGreatDoor
open Go Go.RowKit
set_option maxHeartbeats 400000 in
theorem byD_any (x y : Nat) (c d : Option Addr) (m n : Nat) (w : World) (hG : G w) (hx : 4 ≤ x ∧ x ≤ 8) (hy : 4 ≤ y ∧ y ≤ 8) : Calls Tryz.prog 122 #[va x c m, va y d n] w fun e w' => e = .returned (.int .i64 (cmp3 (dn x) (dn y))) ∧ Below w.heap.size w w' := by
  have hd : ∀ x, 4 ≤ x ∧ x ≤ 8 → (dn x = 1 ∨ dn x = 2 ∨ dn x = 3 ∨ dn x = 5 ∨ dn x = 7) := by
    intro x h
    match x, h with
    | 4, _ | 5, _ | 6, _ | 7, _ | 8, _ => simp [dn]
  have HC := Lib.hid (fun w hG => decCmp (dn x) (dn y) (hd x hx) (hd y hy) w hG)
  have HG := Lib.hid hG
  clear hG hd hx hy
  go_enter Tryz.func122, Tryz.ntmps122
  go_wp2_with (go_at_call 123; refine (HC.out _ (HG.out.mono (below2 _ _ _))).mono ?_; rintro e w1 ⟨rfl, hb⟩)
  go_ret
  exact ⟨rfl, bthen (below2 _ _ _) hb⟩
def OrdPost (n : Int) (w : World) (e : Ending) (w' : World) : Prop := e = .returned (.int .i64 n) ∧ Below w.heap.size w w'
set_option maxHeartbeats 400000 in
theorem order_diff (x y : Nat) (c d : Option Addr) (m n : Nat) (w : World) (hk : (kd x != kd y) = true) : Calls Tryz.prog 135 #[va x c m, va y d n] w (OrdPost (cmp3 (kd x) (kd y)) w) := by
  go_enter Tryz.func135, Tryz.ntmps135
  go_wp2_with (go_at_call 144; refine (compare_int _ _ _).mono ?_; rintro e w' ⟨rfl, rfl⟩)
  go_ret
  exact ⟨rfl, below2 _ _ _⟩
set_option maxRecDepth 100000 in
set_option maxHeartbeats 2000000 in
theorem order_byN (x y : Nat) (c d : Option Addr) (m n : Nat) (w : World) (f : Nat) (hk : (kd x != kd y) = false) (hl : lk clsL (kd x) = some (.agg #[.func (.func f) #[] #[], .func (.func 115) #[] #[]])) (hG : G w) :
    Calls Tryz.prog 135 #[va x c m, va y d n] w (OrdPost (cmp3 (nn x) (nn y)) w) := by
  have HC := Lib.hid (fun (w : World) (hG : G w) => byN_any x y c d m n w)
  have HL := Lib.hid hl; have HG := Lib.hid hG
  clear hl hG
  go_enter Tryz.func135, Tryz.ntmps135
  go_wp2_with fail
  have l1 := lk1 _ _ HL.out
  have hfld : ∀ X : World, (Instr.field 117 (.agg #[.func (.func f) #[] #[], .func (.func 115) #[] #[]]) 1).run Tryz.prog X = .ok (.func (.func 115) #[] #[]) X := fun _ => by kernel_rfl
  have l2 := lk2 _ _ HL.out
  have hbW := below2 w (.cells #[.int .i64 (kd x), .string (st x), .int .i64 (dn x), .int .i64 0, .int .i64 (nn x), .slice c 0 m, .slice none 0 0] 47) (.cells #[.int .i64 (kd y), .string (st y), .int .i64 (dn y), .int .i64 0, .int .i64 (nn y), .slice d 0 n, .slice none 0 0] 47)
  obtain ⟨W, hW⟩ : ∃ W, W = (w.alloc (.cells #[.int .i64 (kd x), .string (st x), .int .i64 (dn x), .int .i64 0, .int .i64 (nn x), .slice c 0 m, .slice none 0 0] 47)).alloc (.cells #[.int .i64 (kd y), .string (st y), .int .i64 (dn y), .int .i64 0, .int .i64 (nn y), .slice d 0 n, .slice none 0 0] 47) := ⟨_, rfl⟩
  have e0 : W.cell? ⟨w.heap.size, 0, none⟩ = some (.int .i64 (kd x)) := by rw [hW]; go_simp
  have e1 : W.cell? ⟨w.heap.size, 1, none⟩ = some (.string (st x)) := by rw [hW]; go_simp
  have e2 : W.cell? ⟨w.heap.size, 2, none⟩ = some (.int .i64 (dn x)) := by rw [hW]; go_simp
  have e3 : W.cell? ⟨w.heap.size, 3, none⟩ = some (.int .i64 0) := by rw [hW]; go_simp
  have e4 : W.cell? ⟨w.heap.size, 4, none⟩ = some (.int .i64 (nn x)) := by rw [hW]; go_simp
  have e5 : W.cell? ⟨w.heap.size, 5, none⟩ = some (.slice c 0 m) := by rw [hW]; go_simp
  have e6 : W.cell? ⟨w.heap.size, 6, none⟩ = some (.slice none 0 0) := by rw [hW]; go_simp
  have f0 : W.cell? ⟨w.heap.size + 1, 0, none⟩ = some (.int .i64 (kd y)) := by rw [hW]; go_simp
  have f1 : W.cell? ⟨w.heap.size + 1, 1, none⟩ = some (.string (st y)) := by rw [hW]; go_simp
  have f2 : W.cell? ⟨w.heap.size + 1, 2, none⟩ = some (.int .i64 (dn y)) := by rw [hW]; go_simp
  have f3 : W.cell? ⟨w.heap.size + 1, 3, none⟩ = some (.int .i64 0) := by rw [hW]; go_simp
  have f4 : W.cell? ⟨w.heap.size + 1, 4, none⟩ = some (.int .i64 (nn y)) := by rw [hW]; go_simp
  have f5 : W.cell? ⟨w.heap.size + 1, 5, none⟩ = some (.slice d 0 n) := by rw [hW]; go_simp
  have f6 : W.cell? ⟨w.heap.size + 1, 6, none⟩ = some (.slice none 0 0) := by rw [hW]; go_simp
  have z0 : w.heap.size < W.heap.size := by rw [hW]; simp; omega
  have z1 : w.heap.size + 1 < W.heap.size := by rw [hW]; simp
  rw [← hW] at hbW ⊢
  have HBW := Lib.hid hbW
  clear hbW hW
  go_region_held3 (fun w' => W.heap.size ≤ w'.heap.size ∧ ∀ b o, b < W.heap.size → w'.cell? ⟨b, o, none⟩ = W.cell? ⟨b, o, none⟩) (first | with_reducible exact ks (Below.refl _ _) | exact ks (by repeat (first | with_reducible exact Below.refl _ _ | with_reducible assumption | with_reducible refine Below.drew ?_ | with_reducible refine Below.alloc ?_ (by first | omega | (simp; done) | (simp; omega)) _ | with_reducible refine Below.setCell ?_ (by first | omega | (simp; done) | (simp; omega)) _))) (first | (go_at_call 90; with_reducible (refine (classes_any _).mono ?_); rintro e w3 ⟨rfl, rfl⟩) | (go_at_call 115; with_reducible (refine (HC.out _ ?_).mono ?_); (exact (HG.out.mono HBW.out).of (by assumption)); rintro e w4 ⟨rfl, hb4'⟩; have hb4 : Below W.heap.size W w4 := Below.trans (by repeat (first | with_reducible exact Below.refl _ _ | with_reducible assumption | with_reducible refine Below.drew ?_ | with_reducible refine Below.alloc ?_ (by first | omega | (simp; done) | (simp; omega)) _ | with_reducible refine Below.setCell ?_ (by first | omega | (simp; done) | (simp; omega)) _)) (hb4'.mono (by first | omega | (simp; done) | (simp; omega)))))
  all_goals go_wp2
  all_goals go_ret
  all_goals exact ⟨rfl, HBW.out.trans (hb4.mono (by omega))⟩
set_option maxRecDepth 100000 in
set_option maxHeartbeats 2000000 in
theorem order_byS (x y : Nat) (c d : Option Addr) (m n : Nat) (w : World) (f : Nat) (hk : (kd x != kd y) = false) (hl : lk clsL (kd x) = some (.agg #[.func (.func f) #[] #[], .func (.func 118) #[] #[]])) (hG : G w) :
    Calls Tryz.prog 135 #[va x c m, va y d n] w (OrdPost (cmpS (st x) (st y)) w) := by
  have HC := Lib.hid (fun (w : World) (hG : G w) => byS_any x y c d m n w)
  have HL := Lib.hid hl; have HG := Lib.hid hG
  clear hl hG
  go_enter Tryz.func135, Tryz.ntmps135
  go_wp2_with fail
  have l1 := lk1 _ _ HL.out
  have hfld : ∀ X : World, (Instr.field 117 (.agg #[.func (.func f) #[] #[], .func (.func 118) #[] #[]]) 1).run Tryz.prog X = .ok (.func (.func 118) #[] #[]) X := fun _ => by kernel_rfl
  have l2 := lk2 _ _ HL.out
  have hbW := below2 w (.cells #[.int .i64 (kd x), .string (st x), .int .i64 (dn x), .int .i64 0, .int .i64 (nn x), .slice c 0 m, .slice none 0 0] 47) (.cells #[.int .i64 (kd y), .string (st y), .int .i64 (dn y), .int .i64 0, .int .i64 (nn y), .slice d 0 n, .slice none 0 0] 47)
  obtain ⟨W, hW⟩ : ∃ W, W = (w.alloc (.cells #[.int .i64 (kd x), .string (st x), .int .i64 (dn x), .int .i64 0, .int .i64 (nn x), .slice c 0 m, .slice none 0 0] 47)).alloc (.cells #[.int .i64 (kd y), .string (st y), .int .i64 (dn y), .int .i64 0, .int .i64 (nn y), .slice d 0 n, .slice none 0 0] 47) := ⟨_, rfl⟩
  have e0 : W.cell? ⟨w.heap.size, 0, none⟩ = some (.int .i64 (kd x)) := by rw [hW]; go_simp
  have e1 : W.cell? ⟨w.heap.size, 1, none⟩ = some (.string (st x)) := by rw [hW]; go_simp
  have e2 : W.cell? ⟨w.heap.size, 2, none⟩ = some (.int .i64 (dn x)) := by rw [hW]; go_simp
  have e3 : W.cell? ⟨w.heap.size, 3, none⟩ = some (.int .i64 0) := by rw [hW]; go_simp
  have e4 : W.cell? ⟨w.heap.size, 4, none⟩ = some (.int .i64 (nn x)) := by rw [hW]; go_simp
  have e5 : W.cell? ⟨w.heap.size, 5, none⟩ = some (.slice c 0 m) := by rw [hW]; go_simp
  have e6 : W.cell? ⟨w.heap.size, 6, none⟩ = some (.slice none 0 0) := by rw [hW]; go_simp
  have f0 : W.cell? ⟨w.heap.size + 1, 0, none⟩ = some (.int .i64 (kd y)) := by rw [hW]; go_simp
  have f1 : W.cell? ⟨w.heap.size + 1, 1, none⟩ = some (.string (st y)) := by rw [hW]; go_simp
  have f2 : W.cell? ⟨w.heap.size + 1, 2, none⟩ = some (.int .i64 (dn y)) := by rw [hW]; go_simp
  have f3 : W.cell? ⟨w.heap.size + 1, 3, none⟩ = some (.int .i64 0) := by rw [hW]; go_simp
  have f4 : W.cell? ⟨w.heap.size + 1, 4, none⟩ = some (.int .i64 (nn y)) := by rw [hW]; go_simp
  have f5 : W.cell? ⟨w.heap.size + 1, 5, none⟩ = some (.slice d 0 n) := by rw [hW]; go_simp
  have f6 : W.cell? ⟨w.heap.size + 1, 6, none⟩ = some (.slice none 0 0) := by rw [hW]; go_simp
  have z0 : w.heap.size < W.heap.size := by rw [hW]; simp; omega
  have z1 : w.heap.size + 1 < W.heap.size := by rw [hW]; simp
  rw [← hW] at hbW ⊢
  have HBW := Lib.hid hbW
  clear hbW hW
  go_region_held3 (fun w' => W.heap.size ≤ w'.heap.size ∧ ∀ b o, b < W.heap.size → w'.cell? ⟨b, o, none⟩ = W.cell? ⟨b, o, none⟩) (first | with_reducible exact ks (Below.refl _ _) | exact ks (by repeat (first | with_reducible exact Below.refl _ _ | with_reducible assumption | with_reducible refine Below.drew ?_ | with_reducible refine Below.alloc ?_ (by first | omega | (simp; done) | (simp; omega)) _ | with_reducible refine Below.setCell ?_ (by first | omega | (simp; done) | (simp; omega)) _))) (first | (go_at_call 90; with_reducible (refine (classes_any _).mono ?_); rintro e w3 ⟨rfl, rfl⟩) | (go_at_call 118; with_reducible (refine (HC.out _ ?_).mono ?_); (exact (HG.out.mono HBW.out).of (by assumption)); rintro e w4 ⟨rfl, hb4'⟩; have hb4 : Below W.heap.size W w4 := Below.trans (by repeat (first | with_reducible exact Below.refl _ _ | with_reducible assumption | with_reducible refine Below.drew ?_ | with_reducible refine Below.alloc ?_ (by first | omega | (simp; done) | (simp; omega)) _ | with_reducible refine Below.setCell ?_ (by first | omega | (simp; done) | (simp; omega)) _)) (hb4'.mono (by first | omega | (simp; done) | (simp; omega)))))
  all_goals go_wp2
  all_goals go_ret
  all_goals exact ⟨rfl, HBW.out.trans (hb4.mono (by omega))⟩
set_option maxRecDepth 100000 in
set_option maxHeartbeats 2000000 in
theorem order_byD (x y : Nat) (c d : Option Addr) (m n : Nat) (w : World) (f : Nat) (hk : (kd x != kd y) = false) (hl : lk clsL (kd x) = some (.agg #[.func (.func f) #[] #[], .func (.func 122) #[] #[]])) (hG : G w) (h1 : 4 ≤ x ∧ x ≤ 8) (h2 : 4 ≤ y ∧ y ≤ 8) :
    Calls Tryz.prog 135 #[va x c m, va y d n] w (OrdPost (cmp3 (dn x) (dn y)) w) := by
  have HC := Lib.hid (fun (w : World) (hG : G w) => byD_any x y c d m n w hG h1 h2)
  have HL := Lib.hid hl; have HG := Lib.hid hG
  clear hl hG h1 h2
  go_enter Tryz.func135, Tryz.ntmps135
  go_wp2_with fail
  have l1 := lk1 _ _ HL.out
  have hfld : ∀ X : World, (Instr.field 117 (.agg #[.func (.func f) #[] #[], .func (.func 122) #[] #[]]) 1).run Tryz.prog X = .ok (.func (.func 122) #[] #[]) X := fun _ => by kernel_rfl
  have l2 := lk2 _ _ HL.out
  have hbW := below2 w (.cells #[.int .i64 (kd x), .string (st x), .int .i64 (dn x), .int .i64 0, .int .i64 (nn x), .slice c 0 m, .slice none 0 0] 47) (.cells #[.int .i64 (kd y), .string (st y), .int .i64 (dn y), .int .i64 0, .int .i64 (nn y), .slice d 0 n, .slice none 0 0] 47)
  obtain ⟨W, hW⟩ : ∃ W, W = (w.alloc (.cells #[.int .i64 (kd x), .string (st x), .int .i64 (dn x), .int .i64 0, .int .i64 (nn x), .slice c 0 m, .slice none 0 0] 47)).alloc (.cells #[.int .i64 (kd y), .string (st y), .int .i64 (dn y), .int .i64 0, .int .i64 (nn y), .slice d 0 n, .slice none 0 0] 47) := ⟨_, rfl⟩
  have e0 : W.cell? ⟨w.heap.size, 0, none⟩ = some (.int .i64 (kd x)) := by rw [hW]; go_simp
  have e1 : W.cell? ⟨w.heap.size, 1, none⟩ = some (.string (st x)) := by rw [hW]; go_simp
  have e2 : W.cell? ⟨w.heap.size, 2, none⟩ = some (.int .i64 (dn x)) := by rw [hW]; go_simp
  have e3 : W.cell? ⟨w.heap.size, 3, none⟩ = some (.int .i64 0) := by rw [hW]; go_simp
  have e4 : W.cell? ⟨w.heap.size, 4, none⟩ = some (.int .i64 (nn x)) := by rw [hW]; go_simp
  have e5 : W.cell? ⟨w.heap.size, 5, none⟩ = some (.slice c 0 m) := by rw [hW]; go_simp
  have e6 : W.cell? ⟨w.heap.size, 6, none⟩ = some (.slice none 0 0) := by rw [hW]; go_simp
  have f0 : W.cell? ⟨w.heap.size + 1, 0, none⟩ = some (.int .i64 (kd y)) := by rw [hW]; go_simp
  have f1 : W.cell? ⟨w.heap.size + 1, 1, none⟩ = some (.string (st y)) := by rw [hW]; go_simp
  have f2 : W.cell? ⟨w.heap.size + 1, 2, none⟩ = some (.int .i64 (dn y)) := by rw [hW]; go_simp
  have f3 : W.cell? ⟨w.heap.size + 1, 3, none⟩ = some (.int .i64 0) := by rw [hW]; go_simp
  have f4 : W.cell? ⟨w.heap.size + 1, 4, none⟩ = some (.int .i64 (nn y)) := by rw [hW]; go_simp
  have f5 : W.cell? ⟨w.heap.size + 1, 5, none⟩ = some (.slice d 0 n) := by rw [hW]; go_simp
  have f6 : W.cell? ⟨w.heap.size + 1, 6, none⟩ = some (.slice none 0 0) := by rw [hW]; go_simp
  have z0 : w.heap.size < W.heap.size := by rw [hW]; simp; omega
  have z1 : w.heap.size + 1 < W.heap.size := by rw [hW]; simp
  rw [← hW] at hbW ⊢
  have HBW := Lib.hid hbW
  clear hbW hW
  go_region_held3 (fun w' => W.heap.size ≤ w'.heap.size ∧ ∀ b o, b < W.heap.size → w'.cell? ⟨b, o, none⟩ = W.cell? ⟨b, o, none⟩) (first | with_reducible exact ks (Below.refl _ _) | exact ks (by repeat (first | with_reducible exact Below.refl _ _ | with_reducible assumption | with_reducible refine Below.drew ?_ | with_reducible refine Below.alloc ?_ (by first | omega | (simp; done) | (simp; omega)) _ | with_reducible refine Below.setCell ?_ (by first | omega | (simp; done) | (simp; omega)) _))) (first | (go_at_call 90; with_reducible (refine (classes_any _).mono ?_); rintro e w3 ⟨rfl, rfl⟩) | (go_at_call 122; with_reducible (refine (HC.out _ ?_).mono ?_); (exact (HG.out.mono HBW.out).of (by assumption)); rintro e w4 ⟨rfl, hb4'⟩; have hb4 : Below W.heap.size W w4 := Below.trans (by repeat (first | with_reducible exact Below.refl _ _ | with_reducible assumption | with_reducible refine Below.drew ?_ | with_reducible refine Below.alloc ?_ (by first | omega | (simp; done) | (simp; omega)) _ | with_reducible refine Below.setCell ?_ (by first | omega | (simp; done) | (simp; omega)) _)) (hb4'.mono (by first | omega | (simp; done) | (simp; omega)))))
  all_goals go_wp2
  all_goals go_ret
  all_goals exact ⟨rfl, HBW.out.trans (hb4.mono (by omega))⟩
end Go.Proofs.YtoiemkifgdnhaaaGreatDoor
namespace Go.Proofs.YtoiemkifgdnhaaaGreatDoor
open Go Go.RowKit
def ordV (x y : Nat) : Int := if kd x != kd y then cmp3 (kd x) (kd y) else if kd x = 1 then cmpS (st x) (st y) else if kd x = 2 then cmp3 (dn x) (dn y) else cmp3 (nn x) (nn y)
theorem ordV_lt {x y : Nat} (hx : x ≤ 9) (hy : y ≤ 9) : decide (ordV x y < 0) = decide (x < y) := by
  have h := all11' (p := fun x y => (decide (9 < x) || decide (9 < y)) || (decide (ordV x y < 0) == decide (x < y))) (by decide +kernel) (show x ≤ 10 by omega) (show y ≤ 10 by omega)
  simp only [decide_eq_false (show ¬ 9 < x by omega), decide_eq_false (show ¬ 9 < y by omega), Bool.or_self, Bool.false_or, beq_iff_eq] at h
  exact h
theorem order_any (x y : Nat) (c d : Option Addr) (m n : Nat) (w : World) (hx : x ≤ 9) (hy : y ≤ 9) (hG : G w) : Calls Tryz.prog 135 #[va x c m, va y d n] w (OrdPost (ordV x y) w) := by
  by_cases hk : (kd x != kd y) = true
  · have : ordV x y = cmp3 (kd x) (kd y) := by unfold ordV; rw [if_pos hk]
    rw [this]; exact order_diff x y c d m n w hk
  · have hk' : (kd x != kd y) = false := by simpa using hk
    have he : kd y = kd x := by simpa using (Eq.symm (by simpa using hk' : kd x = kd y))
    unfold ordV; rw [if_neg hk]
    rcases vkind (show x ≤ 10 by omega) with ⟨h, hq, _⟩ | ⟨h, hq, _⟩ | ⟨⟨h, h'⟩, hq, _⟩ | ⟨rfl, hq, _⟩ | ⟨rfl, hq, _⟩
    · rw [if_neg (by rw [hq]; decide), if_neg (by rw [hq]; decide)]; exact order_byN x y c d m n w _ hk' (by rw [hq]; rfl) hG
    · rw [if_pos hq]; exact order_byS x y c d m n w _ hk' (by rw [hq]; rfl) hG
    · rw [if_neg (by rw [hq]; decide), if_pos hq]
      have hy2 : 4 ≤ y ∧ y ≤ 8 := by
        rcases vkind (show y ≤ 10 by omega) with ⟨_, hr, _⟩ | ⟨_, hr, _⟩ | ⟨hh, hr, _⟩ | ⟨_, hr, _⟩ | ⟨_, hr, _⟩
        · rw [he, hq] at hr; simp at hr
        · rw [he, hq] at hr; simp at hr
        · exact hh
        · rw [he, hq] at hr; simp at hr
        · rw [he, hq] at hr; simp at hr
      exact order_byD x y c d m n w _ hk' (by rw [hq]; rfl) hG ⟨h, h'⟩ hy2
    · rw [if_neg (by rw [hq]; decide), if_neg (by rw [hq]; decide)]; exact order_byN 9 y c d m n w _ hk' (by rw [hq]; rfl) hG
    · omega
set_option maxRecDepth 100000 in
set_option maxHeartbeats 2000000 in
theorem value_less (x y : Nat) (c d : Option Addr) (m n : Nat) (w : World) (hx : x ≤ 10) (hy : y ≤ 10) (hG : G w) :
    Calls Tryz.prog 102 #[va x c m, va y d n] w fun e w' => e = .returned (.bool (decide (x < y))) ∧ Below w.heap.size w w' := by
  have HR := Lib.hid (fun (w : World) => value_right x c m w hx)
  have HR2 := Lib.hid (fun (w : World) => value_right y d n w hy)
  have HO := Lib.hid (fun (w : World) (hx : x ≤ 9) (hy : y ≤ 9) (hG : G w) => order_any x y c d m n w hx hy hG)
  have HG := Lib.hid hG
  clear hG
  go_enter Tryz.func102, Tryz.ntmps102
  go_wp2_with fail
  have hbW := below2 w (.cells #[.int .i64 (kd x), .string (st x), .int .i64 (dn x), .int .i64 0, .int .i64 (nn x), .slice c 0 m, .slice none 0 0] 47) (.cells #[.int .i64 (kd y), .string (st y), .int .i64 (dn y), .int .i64 0, .int .i64 (nn y), .slice d 0 n, .slice none 0 0] 47)
  obtain ⟨W, hW⟩ : ∃ W, W = (w.alloc (.cells #[.int .i64 (kd x), .string (st x), .int .i64 (dn x), .int .i64 0, .int .i64 (nn x), .slice c 0 m, .slice none 0 0] 47)).alloc (.cells #[.int .i64 (kd y), .string (st y), .int .i64 (dn y), .int .i64 0, .int .i64 (nn y), .slice d 0 n, .slice none 0 0] 47) := ⟨_, rfl⟩
  have e0 : W.cell? ⟨w.heap.size, 0, none⟩ = some (.int .i64 (kd x)) := by rw [hW]; go_simp
  have e1 : W.cell? ⟨w.heap.size, 1, none⟩ = some (.string (st x)) := by rw [hW]; go_simp
  have e2 : W.cell? ⟨w.heap.size, 2, none⟩ = some (.int .i64 (dn x)) := by rw [hW]; go_simp
  have e3 : W.cell? ⟨w.heap.size, 3, none⟩ = some (.int .i64 0) := by rw [hW]; go_simp
  have e4 : W.cell? ⟨w.heap.size, 4, none⟩ = some (.int .i64 (nn x)) := by rw [hW]; go_simp
  have e5 : W.cell? ⟨w.heap.size, 5, none⟩ = some (.slice c 0 m) := by rw [hW]; go_simp
  have e6 : W.cell? ⟨w.heap.size, 6, none⟩ = some (.slice none 0 0) := by rw [hW]; go_simp
  have f0 : W.cell? ⟨w.heap.size + 1, 0, none⟩ = some (.int .i64 (kd y)) := by rw [hW]; go_simp
  have f1 : W.cell? ⟨w.heap.size + 1, 1, none⟩ = some (.string (st y)) := by rw [hW]; go_simp
  have f2 : W.cell? ⟨w.heap.size + 1, 2, none⟩ = some (.int .i64 (dn y)) := by rw [hW]; go_simp
  have f3 : W.cell? ⟨w.heap.size + 1, 3, none⟩ = some (.int .i64 0) := by rw [hW]; go_simp
  have f4 : W.cell? ⟨w.heap.size + 1, 4, none⟩ = some (.int .i64 (nn y)) := by rw [hW]; go_simp
  have f5 : W.cell? ⟨w.heap.size + 1, 5, none⟩ = some (.slice d 0 n) := by rw [hW]; go_simp
  have f6 : W.cell? ⟨w.heap.size + 1, 6, none⟩ = some (.slice none 0 0) := by rw [hW]; go_simp
  have z0 : w.heap.size < W.heap.size := by rw [hW]; simp; omega
  have z1 : w.heap.size + 1 < W.heap.size := by rw [hW]; simp
  rw [← hW] at hbW ⊢
  have HBW := Lib.hid hbW
  clear hbW hW
  go_region_held3 (fun w' => W.heap.size ≤ w'.heap.size ∧ ∀ b o, b < W.heap.size → w'.cell? ⟨b, o, none⟩ = W.cell? ⟨b, o, none⟩) (first | with_reducible exact ks (Below.refl _ _) | exact ks (by repeat (first | with_reducible exact Below.refl _ _ | with_reducible assumption | with_reducible refine Below.drew ?_ | with_reducible refine Below.alloc ?_ (by first | omega | (simp; done) | (simp; omega)) _ | with_reducible refine Below.setCell ?_ (by first | omega | (simp; done) | (simp; omega)) _))) (first | (go_at_call 74; with_reducible (refine (HR.out _).mono ?_); rintro e w3 ⟨rfl, hb3'⟩; have hb3 : Below W.heap.size W w3 := Below.trans (by repeat (first | with_reducible exact Below.refl _ _ | with_reducible assumption | with_reducible refine Below.drew ?_ | with_reducible refine Below.alloc ?_ (by first | omega | (simp; done) | (simp; omega)) _ | with_reducible refine Below.setCell ?_ (by first | omega | (simp; done) | (simp; omega)) _)) (hb3'.mono (by first | omega | (simp; done) | (simp; omega))); have hz3 := hb3.size; clear hb3') | (go_at_call 74; with_reducible (refine (HR2.out _).mono ?_); rintro e w4 ⟨rfl, hb4'⟩; have hb4 : Below W.heap.size W w4 := Below.trans (by repeat (first | with_reducible exact Below.refl _ _ | with_reducible assumption | with_reducible refine Below.drew ?_ | with_reducible refine Below.alloc ?_ (by first | omega | (simp; done) | (simp; omega)) _ | with_reducible refine Below.setCell ?_ (by first | omega | (simp; done) | (simp; omega)) _)) (hb4'.mono (by first | omega | (simp; done) | (simp; omega))); clear hb4'))
  have hc4 := olds hb4
  by_cases h9 : 9 < x
  · have h1 : decide (x ≤ 9) = false := by simpa using h9
    have h2 : ¬ x ≤ 9 := by omega
    go_wp2
    go_ret
    exact ⟨ret_bool (by symm; rw [decide_eq_false_iff_not]; omega), HBW.out.trans (hb4.mono (by omega))⟩
  · have h1 : decide (x ≤ 9) = true := by simp; omega
    have h2 : x ≤ 9 := by omega
    by_cases h9y : 9 < y
    · have h3 : decide (y ≤ 9) = false := by simpa using h9y
      have h4 : ¬ y ≤ 9 := by omega
      go_wp2
      go_ret
      exact ⟨ret_bool (by symm; rw [decide_eq_true_iff]; omega), HBW.out.trans (hb4.mono (by omega))⟩
    · have h3 : decide (y ≤ 9) = true := by simp; omega
      have h4 : y ≤ 9 := by omega
      have hG4 := HG.out.mono (HBW.out.trans (hb4.mono (by omega)))
      have HO4 := Lib.hid (HO.out w4 h2 h4 hG4)
      have HLT := Lib.hid (ordV_lt h2 h4)
      clear hG4
      go_wp2_with (go_at_call 135; refine HO4.out.mono ?_; rintro e w5 ⟨rfl, hb5⟩)
      go_ret
      exact ⟨ret_bool HLT.out, bthen (HBW.out.trans (hb4.mono (by omega))) hb5⟩
set_option maxHeartbeats 1000000 in
theorem compare_call : SCompare := by
  intro x y c d m n w hx hy hG
  have HL := Lib.hid (fun (w : World) (hG : G w) => value_less x y c d m n w hx hy hG)
  have HL2 := Lib.hid (fun (w : World) (hG : G w) => value_less y x d c n m w hy hx hG)
  have HG := Lib.hid hG
  clear hG
  go_enter Tryz.func79, Tryz.ntmps79
  go_wp2_with fail
  have hbW := below2 w (.cells #[.int .i64 (kd x), .string (st x), .int .i64 (dn x), .int .i64 0, .int .i64 (nn x), .slice c 0 m, .slice none 0 0] 47) (.cells #[.int .i64 (kd y), .string (st y), .int .i64 (dn y), .int .i64 0, .int .i64 (nn y), .slice d 0 n, .slice none 0 0] 47)
  obtain ⟨W, hW⟩ : ∃ W, W = (w.alloc (.cells #[.int .i64 (kd x), .string (st x), .int .i64 (dn x), .int .i64 0, .int .i64 (nn x), .slice c 0 m, .slice none 0 0] 47)).alloc (.cells #[.int .i64 (kd y), .string (st y), .int .i64 (dn y), .int .i64 0, .int .i64 (nn y), .slice d 0 n, .slice none 0 0] 47) := ⟨_, rfl⟩
  have e0 : W.cell? ⟨w.heap.size, 0, none⟩ = some (.int .i64 (kd x)) := by rw [hW]; go_simp
  have e1 : W.cell? ⟨w.heap.size, 1, none⟩ = some (.string (st x)) := by rw [hW]; go_simp
  have e2 : W.cell? ⟨w.heap.size, 2, none⟩ = some (.int .i64 (dn x)) := by rw [hW]; go_simp
  have e3 : W.cell? ⟨w.heap.size, 3, none⟩ = some (.int .i64 0) := by rw [hW]; go_simp
  have e4 : W.cell? ⟨w.heap.size, 4, none⟩ = some (.int .i64 (nn x)) := by rw [hW]; go_simp
  have e5 : W.cell? ⟨w.heap.size, 5, none⟩ = some (.slice c 0 m) := by rw [hW]; go_simp
  have e6 : W.cell? ⟨w.heap.size, 6, none⟩ = some (.slice none 0 0) := by rw [hW]; go_simp
  have f0 : W.cell? ⟨w.heap.size + 1, 0, none⟩ = some (.int .i64 (kd y)) := by rw [hW]; go_simp
  have f1 : W.cell? ⟨w.heap.size + 1, 1, none⟩ = some (.string (st y)) := by rw [hW]; go_simp
  have f2 : W.cell? ⟨w.heap.size + 1, 2, none⟩ = some (.int .i64 (dn y)) := by rw [hW]; go_simp
  have f3 : W.cell? ⟨w.heap.size + 1, 3, none⟩ = some (.int .i64 0) := by rw [hW]; go_simp
  have f4 : W.cell? ⟨w.heap.size + 1, 4, none⟩ = some (.int .i64 (nn y)) := by rw [hW]; go_simp
  have f5 : W.cell? ⟨w.heap.size + 1, 5, none⟩ = some (.slice d 0 n) := by rw [hW]; go_simp
  have f6 : W.cell? ⟨w.heap.size + 1, 6, none⟩ = some (.slice none 0 0) := by rw [hW]; go_simp
  have z0 : w.heap.size < W.heap.size := by rw [hW]; simp; omega
  have z1 : w.heap.size + 1 < W.heap.size := by rw [hW]; simp
  rw [← hW] at hbW ⊢
  have HBW := Lib.hid hbW
  clear hbW hW
  have hG1 := HL.out W (HG.out.mono HBW.out)
  have HL1 := Lib.hid hG1; clear hG1
  go_wp2_with fail
  refine HL1.out.mono ?_
  rintro e w1 ⟨rfl, hb1⟩
  have hc1 := olds hb1
  have HL3 := Lib.hid (HL2.out w1 (HG.out.mono (bthen HBW.out hb1)))
  by_cases hxy : x < y
  · have h1 : decide (x < y) = true := by simpa using hxy
    have HE := Lib.hid (show cmpV x y = -1 by unfold cmpV; rw [if_pos hxy]); clear hxy
    go_wp2_with fail
    go_ret
    exact ⟨ret_int HE.out.symm, bthen HBW.out hb1⟩
  · have h1 : decide (x < y) = false := by simpa using hxy
    have HN := Lib.hid hxy; clear hxy
    go_wp2_with fail
    refine HL3.out.mono ?_
    rintro e w2 ⟨rfl, hb2⟩
    by_cases hyx : y < x
    · have h2 : decide (y < x) = true := by simpa using hyx
      have HE := Lib.hid (show cmpV x y = 1 by unfold cmpV; rw [if_neg HN.out, if_pos hyx]); clear hyx
      go_wp2_with fail
      go_ret
      exact ⟨ret_int HE.out.symm, bthen (bthen HBW.out hb1) hb2⟩
    · have h2 : decide (y < x) = false := by simpa using hyx
      have HE := Lib.hid (show cmpV x y = 0 by unfold cmpV; rw [if_neg HN.out, if_neg hyx]); clear hyx
      go_wp2_with fail
      go_ret
      exact ⟨ret_int HE.out.symm, bthen (bthen HBW.out hb1) hb2⟩
end Go.Proofs.YtoiemkifgdnhaaaGreatDoor
