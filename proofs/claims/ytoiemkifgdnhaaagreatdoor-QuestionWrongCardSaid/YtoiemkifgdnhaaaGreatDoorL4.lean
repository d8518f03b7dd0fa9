/- The program's Right: ten of the eleven values are right. Conditions: each value is one of the eleven.
  Which answers are right, how many inputs there are. Conditions: each value is one of the eleven.
  The numbers of all programs; a binary search for a value. Conditions: each value is one of the eleven; at most 1000 programs.
  A binary search for a value. Conditions: each value is one of the eleven; the values are in order. -/
import Derived.Test.YtoiemkifgdnhaaaGreatDoorL3
import Derived.Laws.EntriesVeiled
import Derived.Test.YtoiemkifgdnhaaaGreatDoorL1
namespace Go.Proofs.YtoiemkifgdnhaaaGreatDoor
open Go Go.RowKit
theorem lk0 (k : Int) (v : Value) (h : lk clsL k = some v) (X : World) (r : Nat) (hr : X.heap[r]? = some (.map clsE 6)) (ok : Bool) :
    (Instr.lookup 119 (.map (some r)) (.int .i64 k) ok).run Tryz.prog X = .ok (if ok then .tuple #[v, .bool true] else v) X :=
  run_lookup _ _ 3 117 .i64 k _ clsL v (by kernel_rfl) (by kernel_rfl) ⟨clsE, 6, hr, rfl⟩ h ok
theorem lk1 (k : Int) (v : Value) (h : lk clsL k = some v) (X : World) (r : Nat) (hr : r = X.heap.size) (ok : Bool) :
    (Instr.lookup 119 (.map (some r)) (.int .i64 k) ok).run Tryz.prog (X.alloc (.map clsE 6)).drew = .ok (if ok then .tuple #[v, .bool true] else v) (X.alloc (.map clsE 6)).drew :=
  lk0 k v h _ r (by subst hr; show (X.heap.push _)[_]? = _; simp) ok
theorem lk2 (k : Int) (v : Value) (h : lk clsL k = some v) (X : World) (r : Nat) (o : Obj) (hr : r = X.heap.size) (ok : Bool) :
    (Instr.lookup 119 (.map (some r)) (.int .i64 k) ok).run Tryz.prog ((X.alloc (.map clsE 6)).alloc o).drew = .ok (if ok then .tuple #[v, .bool true] else v) ((X.alloc (.map clsE 6)).alloc o).drew :=
  lk0 k v h _ r (by subst hr; show ((X.heap.push _).push _)[_]? = _; rw [Array.getElem?_push, if_neg (by simp)]; simp) ok
theorem ln0 (k : Int) (h : lk clsL k = none) (X : World) (r : Nat) (hr : X.heap[r]? = some (.map clsE 6)) (ok : Bool) :
    (Instr.lookup 119 (.map (some r)) (.int .i64 k) ok).run Tryz.prog X = .ok (if ok then .tuple #[.agg #[.nilFunc, .nilFunc], .bool false] else .agg #[.nilFunc, .nilFunc]) X :=
  run_lookup_none _ _ 3 117 .i64 k _ clsL _ (by kernel_rfl) (by kernel_rfl) ⟨clsE, 6, hr, rfl⟩ h (by kernel_rfl) ok
theorem ln1 (k : Int) (h : lk clsL k = none) (X : World) (r : Nat) (hr : r = X.heap.size) (ok : Bool) :
    (Instr.lookup 119 (.map (some r)) (.int .i64 k) ok).run Tryz.prog (X.alloc (.map clsE 6)).drew = .ok (if ok then .tuple #[.agg #[.nilFunc, .nilFunc], .bool false] else .agg #[.nilFunc, .nilFunc]) (X.alloc (.map clsE 6)).drew :=
  ln0 k h _ r (by subst hr; show (X.heap.push _)[_]? = _; simp) ok
theorem ln2 (k : Int) (h : lk clsL k = none) (X : World) (r : Nat) (o : Obj) (hr : r = X.heap.size) (ok : Bool) :
    (Instr.lookup 119 (.map (some r)) (.int .i64 k) ok).run Tryz.prog ((X.alloc (.map clsE 6)).alloc o).drew = .ok (if ok then .tuple #[.agg #[.nilFunc, .nilFunc], .bool false] else .agg #[.nilFunc, .nilFunc]) ((X.alloc (.map clsE 6)).alloc o).drew :=
  ln0 k h _ r (by subst hr; show ((X.heap.push _).push _)[_]? = _; rw [Array.getElem?_push, if_neg (by simp)]; simp) ok
set_option maxRecDepth 100000 in
set_option maxHeartbeats 2000000 in
theorem right0 (x : Nat) (c : Option Addr) (m : Nat) (w : World) (hk : lk clsL (kd x) = some (.agg #[.func (.func 113) #[] #[], .func (.func 115) #[] #[]]))
    (hs : st x = ⟨#[]⟩) (hd : dn x = 0) (h0 : 0 ≤ nn x) (h1 : nn x ≤ 99) :
    Calls Tryz.prog 74 #[va x c m] w fun e w' => e = .returned (.bool true) ∧ Below w.heap.size w w' := by
  have HF := Lib.hid (fun w => right_none x c m w hs hd h0 h1); clear hs hd
  have HK := Lib.hid hk; clear hk
  go_enter Tryz.func74, Tryz.ntmps74
  go_upto_region 1 with fail
  go_cut [3, 4] (fun s3 s4 wx => ∃ g3 : Nat, s3 = .pointer (some ⟨g3, 0, none⟩) ∧ s4 = .bool true ∧ wx.cell? ⟨g3, 0, none⟩ = some (.func (.func 113) #[] #[]) ∧
    Below (w.alloc (.cells #[.int .i64 (kd x), .string (st x), .int .i64 (dn x), .int .i64 0, .int .i64 (nn x), .slice c 0 m, .slice none 0 0] 47)).heap.size (w.alloc (.cells #[.int .i64 (kd x), .string (st x), .int .i64 (dn x), .int .i64 0, .int .i64 (nn x), .slice c 0 m, .slice none 0 0] 47)) wx)
  case first =>
    have l1 := lk1 _ _ HK.out
    have l2 := lk2 _ _ HK.out
    have hbW := below1 w (.cells #[.int .i64 (kd x), .string (st x), .int .i64 (dn x), .int .i64 0, .int .i64 (nn x), .slice c 0 m, .slice none 0 0] 47)
    obtain ⟨W, hW⟩ : ∃ W, W = (w.alloc (.cells #[.int .i64 (kd x), .string (st x), .int .i64 (dn x), .int .i64 0, .int .i64 (nn x), .slice c 0 m, .slice none 0 0] 47)) := ⟨_, rfl⟩
    have e0 : W.cell? ⟨w.heap.size, 0, none⟩ = some (.int .i64 (kd x)) := by rw [hW]; go_simp
    have z0 : w.heap.size < W.heap.size := by rw [hW]; simp
    rw [← hW] at hbW ⊢
    have HBW := Lib.hid hbW; have HW := Lib.hid hW
    clear hbW hW
    go_region_held3 (fun w' => W.heap.size ≤ w'.heap.size ∧ ∀ b o, b < W.heap.size → w'.cell? ⟨b, o, none⟩ = W.cell? ⟨b, o, none⟩) (first | with_reducible exact ks (Below.refl _ _) | exact ks (by repeat (first | with_reducible exact Below.refl _ _ | with_reducible assumption | with_reducible refine Below.drew ?_ | with_reducible refine Below.alloc ?_ (by first | omega | (simp; done) | (simp; omega)) _ | with_reducible refine Below.setCell ?_ (by first | omega | (simp; done) | (simp; omega)) _))) (first | (go_at_call 90; with_reducible (refine (classes_any _).mono ?_); rintro e w3 ⟨rfl, rfl⟩))
    all_goals (go_wp2_with fail; go_meet)
    all_goals rw [← HW.out]
    all_goals exact ⟨_, rfl, rfl, by go_simp, (by repeat (first | with_reducible exact Below.refl _ _ | with_reducible assumption | with_reducible refine Below.drew ?_ | with_reducible refine Below.alloc ?_ (by first | omega | (simp; done) | (simp; omega)) _ | with_reducible refine Below.setCell ?_ (by first | omega | (simp; done) | (simp; omega)) _))⟩
  case rest =>
    obtain ⟨g3, rfl, rfl, c0, hbel⟩ := hcut
    have hc := olds hbel
    go_wp2_with (go_at_call 113; refine (HF.out _).mono ?_; rintro e w4 ⟨rfl, hb⟩)
    go_ret
    exact ⟨rfl, bthen (bthen (below1 _ _) hbel) hb⟩
set_option maxRecDepth 100000 in
set_option maxHeartbeats 2000000 in
theorem right1 (x : Nat) (c : Option Addr) (m : Nat) (w : World) (hk : lk clsL (kd x) = some (.agg #[.func (.func 116) #[] #[], .func (.func 118) #[] #[]]))
    (h : x = 2 ∨ x = 3) (hs : dn x = 0) (hd : nn x = 0) :
    Calls Tryz.prog 74 #[va x c m] w fun e w' => e = .returned (.bool true) ∧ Below w.heap.size w w' := by
  have HF := Lib.hid (fun w => right_text x c m w h hs hd); clear h hs hd
  have HK := Lib.hid hk; clear hk
  go_enter Tryz.func74, Tryz.ntmps74
  go_upto_region 1 with fail
  go_cut [3, 4] (fun s3 s4 wx => ∃ g3 : Nat, s3 = .pointer (some ⟨g3, 0, none⟩) ∧ s4 = .bool true ∧ wx.cell? ⟨g3, 0, none⟩ = some (.func (.func 116) #[] #[]) ∧
    Below (w.alloc (.cells #[.int .i64 (kd x), .string (st x), .int .i64 (dn x), .int .i64 0, .int .i64 (nn x), .slice c 0 m, .slice none 0 0] 47)).heap.size (w.alloc (.cells #[.int .i64 (kd x), .string (st x), .int .i64 (dn x), .int .i64 0, .int .i64 (nn x), .slice c 0 m, .slice none 0 0] 47)) wx)
  case first =>
    have l1 := lk1 _ _ HK.out
    have l2 := lk2 _ _ HK.out
    have hbW := below1 w (.cells #[.int .i64 (kd x), .string (st x), .int .i64 (dn x), .int .i64 0, .int .i64 (nn x), .slice c 0 m, .slice none 0 0] 47)
    obtain ⟨W, hW⟩ : ∃ W, W = (w.alloc (.cells #[.int .i64 (kd x), .string (st x), .int .i64 (dn x), .int .i64 0, .int .i64 (nn x), .slice c 0 m, .slice none 0 0] 47)) := ⟨_, rfl⟩
    have e0 : W.cell? ⟨w.heap.size, 0, none⟩ = some (.int .i64 (kd x)) := by rw [hW]; go_simp
    have z0 : w.heap.size < W.heap.size := by rw [hW]; simp
    rw [← hW] at hbW ⊢
    have HBW := Lib.hid hbW; have HW := Lib.hid hW
    clear hbW hW
    go_region_held3 (fun w' => W.heap.size ≤ w'.heap.size ∧ ∀ b o, b < W.heap.size → w'.cell? ⟨b, o, none⟩ = W.cell? ⟨b, o, none⟩) (first | with_reducible exact ks (Below.refl _ _) | exact ks (by repeat (first | with_reducible exact Below.refl _ _ | with_reducible assumption | with_reducible refine Below.drew ?_ | with_reducible refine Below.alloc ?_ (by first | omega | (simp; done) | (simp; omega)) _ | with_reducible refine Below.setCell ?_ (by first | omega | (simp; done) | (simp; omega)) _))) (first | (go_at_call 90; with_reducible (refine (classes_any _).mono ?_); rintro e w3 ⟨rfl, rfl⟩))
    all_goals (go_wp2_with fail; go_meet)
    all_goals rw [← HW.out]
    all_goals exact ⟨_, rfl, rfl, by go_simp, (by repeat (first | with_reducible exact Below.refl _ _ | with_reducible assumption | with_reducible refine Below.drew ?_ | with_reducible refine Below.alloc ?_ (by first | omega | (simp; done) | (simp; omega)) _ | with_reducible refine Below.setCell ?_ (by first | omega | (simp; done) | (simp; omega)) _))⟩
  case rest =>
    obtain ⟨g3, rfl, rfl, c0, hbel⟩ := hcut
    have hc := olds hbel
    go_wp2_with (go_at_call 116; refine (HF.out _).mono ?_; rintro e w4 ⟨rfl, hb⟩)
    go_ret
    exact ⟨rfl, bthen (bthen (below1 _ _) hbel) hb⟩
set_option maxRecDepth 100000 in
set_option maxHeartbeats 2000000 in
theorem right2 (x : Nat) (c : Option Addr) (m : Nat) (w : World) (hk : lk clsL (kd x) = some (.agg #[.func (.func 120) #[] #[], .func (.func 122) #[] #[]]))
    (hs : st x = ⟨#[]⟩) (hd : nn x = 0) (h0 : 1 ≤ dn x) (h1 : dn x ≤ 7) :
    Calls Tryz.prog 74 #[va x c m] w fun e w' => e = .returned (.bool true) ∧ Below w.heap.size w w' := by
  have HF := Lib.hid (fun w => right_number x c m w hs hd h0 h1); clear hs hd
  have HK := Lib.hid hk; clear hk
  go_enter Tryz.func74, Tryz.ntmps74
  go_upto_region 1 with fail
  go_cut [3, 4] (fun s3 s4 wx => ∃ g3 : Nat, s3 = .pointer (some ⟨g3, 0, none⟩) ∧ s4 = .bool true ∧ wx.cell? ⟨g3, 0, none⟩ = some (.func (.func 120) #[] #[]) ∧
    Below (w.alloc (.cells #[.int .i64 (kd x), .string (st x), .int .i64 (dn x), .int .i64 0, .int .i64 (nn x), .slice c 0 m, .slice none 0 0] 47)).heap.size (w.alloc (.cells #[.int .i64 (kd x), .string (st x), .int .i64 (dn x), .int .i64 0, .int .i64 (nn x), .slice c 0 m, .slice none 0 0] 47)) wx)
  case first =>
    have l1 := lk1 _ _ HK.out
    have l2 := lk2 _ _ HK.out
    have hbW := below1 w (.cells #[.int .i64 (kd x), .string (st x), .int .i64 (dn x), .int .i64 0, .int .i64 (nn x), .slice c 0 m, .slice none 0 0] 47)
    obtain ⟨W, hW⟩ : ∃ W, W = (w.alloc (.cells #[.int .i64 (kd x), .string (st x), .int .i64 (dn x), .int .i64 0, .int .i64 (nn x), .slice c 0 m, .slice none 0 0] 47)) := ⟨_, rfl⟩
    have e0 : W.cell? ⟨w.heap.size, 0, none⟩ = some (.int .i64 (kd x)) := by rw [hW]; go_simp
    have z0 : w.heap.size < W.heap.size := by rw [hW]; simp
    rw [← hW] at hbW ⊢
    have HBW := Lib.hid hbW; have HW := Lib.hid hW
    clear hbW hW
    go_region_held3 (fun w' => W.heap.size ≤ w'.heap.size ∧ ∀ b o, b < W.heap.size → w'.cell? ⟨b, o, none⟩ = W.cell? ⟨b, o, none⟩) (first | with_reducible exact ks (Below.refl _ _) | exact ks (by repeat (first | with_reducible exact Below.refl _ _ | with_reducible assumption | with_reducible refine Below.drew ?_ | with_reducible refine Below.alloc ?_ (by first | omega | (simp; done) | (simp; omega)) _ | with_reducible refine Below.setCell ?_ (by first | omega | (simp; done) | (simp; omega)) _))) (first | (go_at_call 90; with_reducible (refine (classes_any _).mono ?_); rintro e w3 ⟨rfl, rfl⟩))
    all_goals (go_wp2_with fail; go_meet)
    all_goals rw [← HW.out]
    all_goals exact ⟨_, rfl, rfl, by go_simp, (by repeat (first | with_reducible exact Below.refl _ _ | with_reducible assumption | with_reducible refine Below.drew ?_ | with_reducible refine Below.alloc ?_ (by first | omega | (simp; done) | (simp; omega)) _ | with_reducible refine Below.setCell ?_ (by first | omega | (simp; done) | (simp; omega)) _))⟩
  case rest =>
    obtain ⟨g3, rfl, rfl, c0, hbel⟩ := hcut
    have hc := olds hbel
    go_wp2_with (go_at_call 120; refine (HF.out _).mono ?_; rintro e w4 ⟨rfl, hb⟩)
    go_ret
    exact ⟨rfl, bthen (bthen (below1 _ _) hbel) hb⟩
set_option maxRecDepth 100000 in
set_option maxHeartbeats 2000000 in
theorem right4 (x : Nat) (c : Option Addr) (m : Nat) (w : World) (hk : lk clsL (kd x) = some (.agg #[.func (.func 125) #[] #[], .func (.func 115) #[] #[]]))
    (hs : st x = ⟨#[]⟩) (hd : dn x = 0) (h1 : nn x = 1) :
    Calls Tryz.prog 74 #[va x c m] w fun e w' => e = .returned (.bool true) ∧ Below w.heap.size w w' := by
  have HF := Lib.hid (fun w => right_bool x c m w hs hd h1); clear hs hd h1
  have HK := Lib.hid hk; clear hk
  go_enter Tryz.func74, Tryz.ntmps74
  go_upto_region 1 with fail
  go_cut [3, 4] (fun s3 s4 wx => ∃ g3 : Nat, s3 = .pointer (some ⟨g3, 0, none⟩) ∧ s4 = .bool true ∧ wx.cell? ⟨g3, 0, none⟩ = some (.func (.func 125) #[] #[]) ∧
    Below (w.alloc (.cells #[.int .i64 (kd x), .string (st x), .int .i64 (dn x), .int .i64 0, .int .i64 (nn x), .slice c 0 m, .slice none 0 0] 47)).heap.size (w.alloc (.cells #[.int .i64 (kd x), .string (st x), .int .i64 (dn x), .int .i64 0, .int .i64 (nn x), .slice c 0 m, .slice none 0 0] 47)) wx)
  case first =>
    have l1 := lk1 _ _ HK.out
    have l2 := lk2 _ _ HK.out
    have hbW := below1 w (.cells #[.int .i64 (kd x), .string (st x), .int .i64 (dn x), .int .i64 0, .int .i64 (nn x), .slice c 0 m, .slice none 0 0] 47)
    obtain ⟨W, hW⟩ : ∃ W, W = (w.alloc (.cells #[.int .i64 (kd x), .string (st x), .int .i64 (dn x), .int .i64 0, .int .i64 (nn x), .slice c 0 m, .slice none 0 0] 47)) := ⟨_, rfl⟩
    have e0 : W.cell? ⟨w.heap.size, 0, none⟩ = some (.int .i64 (kd x)) := by rw [hW]; go_simp
    have z0 : w.heap.size < W.heap.size := by rw [hW]; simp
    rw [← hW] at hbW ⊢
    have HBW := Lib.hid hbW; have HW := Lib.hid hW
    clear hbW hW
    go_region_held3 (fun w' => W.heap.size ≤ w'.heap.size ∧ ∀ b o, b < W.heap.size → w'.cell? ⟨b, o, none⟩ = W.cell? ⟨b, o, none⟩) (first | with_reducible exact ks (Below.refl _ _) | exact ks (by repeat (first | with_reducible exact Below.refl _ _ | with_reducible assumption | with_reducible refine Below.drew ?_ | with_reducible refine Below.alloc ?_ (by first | omega | (simp; done) | (simp; omega)) _ | with_reducible refine Below.setCell ?_ (by first | omega | (simp; done) | (simp; omega)) _))) (first | (go_at_call 90; with_reducible (refine (classes_any _).mono ?_); rintro e w3 ⟨rfl, rfl⟩))
    all_goals (go_wp2_with fail; go_meet)
    all_goals rw [← HW.out]
    all_goals exact ⟨_, rfl, rfl, by go_simp, (by repeat (first | with_reducible exact Below.refl _ _ | with_reducible assumption | with_reducible refine Below.drew ?_ | with_reducible refine Below.alloc ?_ (by first | omega | (simp; done) | (simp; omega)) _ | with_reducible refine Below.setCell ?_ (by first | omega | (simp; done) | (simp; omega)) _))⟩
  case rest =>
    obtain ⟨g3, rfl, rfl, c0, hbel⟩ := hcut
    have hc := olds hbel
    go_wp2_with (go_at_call 125; refine (HF.out _).mono ?_; rintro e w4 ⟨rfl, hb⟩)
    go_ret
    exact ⟨rfl, bthen (bthen (below1 _ _) hbel) hb⟩
set_option maxRecDepth 100000 in
set_option maxHeartbeats 2000000 in
theorem right9 (x : Nat) (c : Option Addr) (m : Nat) (w : World) (hk : lk clsL (kd x) = none)
    :
    Calls Tryz.prog 74 #[va x c m] w fun e w' => e = .returned (.bool false) ∧ Below w.heap.size w w' := by
  have HK := Lib.hid hk; clear hk
  go_enter Tryz.func74, Tryz.ntmps74
  go_upto_region 1 with fail
  go_cut [3, 4] (fun s3 s4 wx => ∃ g3 : Nat, s3 = .pointer (some ⟨g3, 0, none⟩) ∧ s4 = .bool false ∧
    Below (w.alloc (.cells #[.int .i64 (kd x), .string (st x), .int .i64 (dn x), .int .i64 0, .int .i64 (nn x), .slice c 0 m, .slice none 0 0] 47)).heap.size (w.alloc (.cells #[.int .i64 (kd x), .string (st x), .int .i64 (dn x), .int .i64 0, .int .i64 (nn x), .slice c 0 m, .slice none 0 0] 47)) wx)
  case first =>
    have l1 := ln1 _ HK.out
    have l2 := ln2 _ HK.out
    have hbW := below1 w (.cells #[.int .i64 (kd x), .string (st x), .int .i64 (dn x), .int .i64 0, .int .i64 (nn x), .slice c 0 m, .slice none 0 0] 47)
    obtain ⟨W, hW⟩ : ∃ W, W = (w.alloc (.cells #[.int .i64 (kd x), .string (st x), .int .i64 (dn x), .int .i64 0, .int .i64 (nn x), .slice c 0 m, .slice none 0 0] 47)) := ⟨_, rfl⟩
    have e0 : W.cell? ⟨w.heap.size, 0, none⟩ = some (.int .i64 (kd x)) := by rw [hW]; go_simp
    have z0 : w.heap.size < W.heap.size := by rw [hW]; simp
    rw [← hW] at hbW ⊢
    have HBW := Lib.hid hbW; have HW := Lib.hid hW
    clear hbW hW
    go_region_held3 (fun w' => W.heap.size ≤ w'.heap.size ∧ ∀ b o, b < W.heap.size → w'.cell? ⟨b, o, none⟩ = W.cell? ⟨b, o, none⟩) (first | with_reducible exact ks (Below.refl _ _) | exact ks (by repeat (first | with_reducible exact Below.refl _ _ | with_reducible assumption | with_reducible refine Below.drew ?_ | with_reducible refine Below.alloc ?_ (by first | omega | (simp; done) | (simp; omega)) _ | with_reducible refine Below.setCell ?_ (by first | omega | (simp; done) | (simp; omega)) _))) (first | (go_at_call 90; with_reducible (refine (classes_any _).mono ?_); rintro e w3 ⟨rfl, rfl⟩))
    all_goals (go_wp2_with fail; go_meet)
    all_goals rw [← HW.out]
    all_goals exact ⟨_, rfl, rfl, (by repeat (first | with_reducible exact Below.refl _ _ | with_reducible assumption | with_reducible refine Below.drew ?_ | with_reducible refine Below.alloc ?_ (by first | omega | (simp; done) | (simp; omega)) _ | with_reducible refine Below.setCell ?_ (by first | omega | (simp; done) | (simp; omega)) _))⟩
  case rest =>
    obtain ⟨g3, rfl, rfl, hbel⟩ := hcut
    have hc := olds hbel
    go_wp2
    go_ret
    exact ⟨rfl, bthen (below1 _ _) hbel⟩
theorem value_right (x : Nat) (c : Option Addr) (m : Nat) (w : World) (hx : x ≤ 10) :
    Calls Tryz.prog 74 #[va x c m] w fun e w' => e = .returned (.bool (decide (x ≤ 9))) ∧ Below w.heap.size w w' := by
  rcases vkind hx with ⟨h, hk, hs, hd, h0, h1⟩ | ⟨h, hk, hd, hn⟩ | ⟨⟨h, h'⟩, hk, hs, hn, h0, h1⟩ | ⟨rfl, hk, hs, hd, hn⟩ | ⟨rfl, hk, hs, hd, hn⟩
  · rw [decide_eq_true (show x ≤ 9 by omega)]; exact right0 x c m w (by rw [hk]; rfl) hs hd h0 h1
  · rw [decide_eq_true (show x ≤ 9 by omega)]; exact right1 x c m w (by rw [hk]; rfl) h hd hn
  · rw [decide_eq_true (show x ≤ 9 by omega)]; exact right2 x c m w (by rw [hk]; rfl) hs hn h0 h1
  · exact right4 9 c m w (by rw [hk]; rfl) hs hd hn
  · exact right9 10 c m w (by rw [hk]; rfl)
end Go.Proofs.YtoiemkifgdnhaaaGreatDoor
namespace Go.Proofs.YtoiemkifgdnhaaaGreatDoor
open Go Go.RowKit
set_option maxHeartbeats 400000 in
theorem right1_call (x : Nat) (c : Option Addr) (m : Nat) (w : World) (hx : x ≤ 10) : Calls Tryz.prog 73 #[va x c m] w fun e w' => e = .returned (.bool (decide (9 < x))) ∧ Below w.heap.size w w' := by
  have HX := Lib.hid hx; clear hx
  go_enter Tryz.func73, Tryz.ntmps73
  go_wp2_with (go_at_call 74; refine (value_right _ _ _ _ HX.out).mono ?_; rintro e w1 ⟨rfl, hb⟩)
  go_ret
  exact ⟨ret_bool (by rw [Bool.eq_iff_iff]; simp), bthen (below1 _ _) hb⟩
/-- The first place with a property, or -1. -/
def firstAt (p : Nat → Bool) (xs : List Nat) : Int := match xs.findIdx? p with | some k => k | none => -1
theorem firstAt_hit {p : Nat → Bool} {xs : List Nat} {k : Nat} (h : ∀ j, j < k → p (xs.getD j 0) = false) (hk : k < xs.length) (hp : p (xs.getD k 0) = true) : firstAt p xs = k := by
  have : xs.findIdx? p = some k := by
    rw [List.findIdx?_eq_some_iff_getElem]
    refine ⟨hk, by simpa [hk] using hp, fun j hj => ?_⟩
    have := h j hj
    simp [show j < xs.length by omega] at this
    simpa using this
  simp [firstAt, this]
theorem firstAt_none {p : Nat → Bool} {xs : List Nat} (h : ∀ j, j < xs.length → p (xs.getD j 0) = false) : firstAt p xs = -1 := by
  have : xs.findIdx? p = none := by
    rw [List.findIdx?_eq_none_iff]
    intro x hx
    obtain ⟨j, hj, rfl⟩ := List.getElem_of_mem hx
    simpa [hj] using h j hj
  simp [firstAt, this]
theorem firstAt_nonneg (p : Nat → Bool) (xs : List Nat) : decide (0 ≤ firstAt p xs) = xs.any p := by
  unfold firstAt
  cases h : xs.findIdx? p with
  | none =>
    rw [List.findIdx?_eq_none_iff] at h
    have : xs.any p = false := by rw [List.any_eq_false]; intro x hx; simp [h x hx]
    simp [this]
  | some k =>
    have : xs.any p = true := by
      rw [List.findIdx?_eq_some_iff_getElem] at h
      obtain ⟨hk, hp, _⟩ := h
      exact List.any_eq_true.2 ⟨_, List.getElem_mem hk, hp⟩
    simp [this]
set_option maxHeartbeats 400000 in
theorem indexFunc_right (w : World) (a : Value) (xs : List Nat) (ha : Vals w a xs) : Calls Tryz.prog 58 #[a, .func (.func 73) #[] #[]] w
    fun e w' => e = .returned (.int .i64 (firstAt (fun x => decide (9 < x)) xs)) ∧ Below w.heap.size w w' := by
  have HA := Lib.hid ha
  obtain ⟨ao, ac, rfl, ha1⟩ := ha.1.open
  have ha2 := ha.2.1
  clear ha
  go_enter Tryz.func58, Tryz.ntmps58
  go_wp2
  go_loopw [5, 8] (fun u i wr => ∃ k : Nat, k ≤ xs.length ∧ i = .int .i64 k ∧ (∀ j, j < k → decide (9 < xs.getD j 0) = false) ∧ Below w.heap.size w wr) (fun _ i _ => xs.length - (intOf i).toNat)
  case atStart => exact ⟨0, by omega, rfl, fun j h => by omega, Below.refl _ _⟩
  case round =>
    obtain ⟨k, hk, rfl, he, hbel⟩ := hrel
    have HR := Lib.hid he; have HBL := Lib.hid hbel
    by_cases hlt : k < xs.length
    · have h1 : (k:Int) < xs.length := by omega
      have h0 : 0 ≤ (k:Int) := by omega
      have va := HA.out.mono hbel
      obtain ⟨b1, o1, rfl, g1, c1, d1, p0, p1, p2, p3, p4, p5, p6⟩ := va.1.at hlt
      have hx : xs.getD k 0 ≤ 10 := getD_le va.2.2 hlt
      clear va he hbel
      generalize hgx : xs.getD k 0 = x at *
      have HX := Lib.hid hgx; clear hgx
      go_wp2_with (go_at_call 73; refine (right1_call _ _ _ _ hx).mono ?_; rintro e w1 ⟨rfl, hbw⟩)
      · go_ret
        have hx9 : 9 < x := by assumption
        exact ⟨ret_int (firstAt_hit HR.out hlt (by rw [HX.out]; simpa using hx9)).symm, bthen HBL.out hbw⟩
      · go_roundw
        case rel =>
          have hx9 : ¬ 9 < x := by assumption
          refine ⟨k + 1, by omega, by go_num, fun j hj => ?_, bthen HBL.out hbw⟩
          by_cases hjk : j = k
          · subst hjk; rw [HX.out]; simpa using hx9
          · exact HR.out j (by omega)
        case measure => simp [intOf]; omega
    · clear he hbel
      go_wp2
      go_ret
      obtain rfl : k = xs.length := by omega
      exact ⟨ret_int (firstAt_none HR.out).symm, HBL.out⟩
set_option maxHeartbeats 400000 in
theorem contains_right (w : World) (a : Value) (xs : List Nat) (ha : Vals w a xs) : Calls Tryz.prog 72 #[a, .func (.func 73) #[] #[]] w
    fun e w' => e = .returned (.bool (xs.any fun x => decide (9 < x))) ∧ Below w.heap.size w w' := by
  have HA := Lib.hid ha; clear ha
  go_enter Tryz.func72, Tryz.ntmps72
  go_wp2_with (go_at_call 58; refine (indexFunc_right _ _ _ HA.out).mono ?_; rintro e w1 ⟨rfl, hbw⟩)
  go_ret
  exact ⟨ret_bool (firstAt_nonneg _ _), hbw⟩
def inputsS (A : List (List Nat)) : Nat := (A.headD []).length
def rowB (n : Nat) (l : List Nat) : Bool := l.length == n && !(l.any fun x => decide (9 < x))
def rightS (A : List (List Nat)) : Bool := A.all (rowB (inputsS A))
set_option maxHeartbeats 400000 in
theorem inputs_call (w : World) (a : Value) (A : List (List Nat)) (ha : ValRows w a A) : Calls Tryz.prog 47 #[a] w fun e w' => e = .returned (.int .i64 (inputsS A)) ∧ Below w.heap.size w w' := by
  have HA := Lib.hid ha
  obtain ⟨ao, ac, rfl, ha1⟩ := ha.1.open
  have ha2 := ha.2
  clear ha
  by_cases hl : A.length = 0
  · have hl' : ((A.length : Int) == 0) = true := by simp [hl]
    have HL := Lib.hid hl; clear hl
    go_enter Tryz.func47, Tryz.ntmps47
    go_wp2
    go_ret
    exact ⟨ret_int (by have := HL.out; rw [List.length_eq_zero_iff] at this; subst this; rfl), Below.refl _ _⟩
  · have hl' : ((A.length : Int) == 0) = false := by rw [beq_eq_false_iff_ne]; omega
    have h1 : (0 : Int) < A.length := by omega
    obtain ⟨b1, o1, rfl, g1, ra, rc, p0, p1⟩ := HA.out.1.at (show 0 < A.length by omega)
    have HP := Lib.hid p1; clear p1
    simp only [Nat.zero_mul, Nat.add_zero] at p0
    have HL := Lib.hid hl; clear hl
    go_enter Tryz.func47, Tryz.ntmps47
    go_wp2
    go_ret
    exact ⟨ret_int (by have := HL.out; cases A <;> simp_all [inputsS]), Below.refl _ _⟩
set_option maxHeartbeats 800000 in
theorem right_call (w : World) (a : Value) (A : List (List Nat)) (ha : ValRows w a A) : Calls Tryz.prog 46 #[a] w fun e w' => e = .returned (.bool (rightS A)) ∧ Below w.heap.size w w' := by
  have HA := Lib.hid ha
  obtain ⟨ao, ac, rfl, ha1⟩ := ha.1.open
  have ha2 := ha.2
  clear ha
  go_enter Tryz.func46, Tryz.ntmps46
  go_wp2
  go_loopw [4, 7] (fun u i wr => ∃ k : Nat, k ≤ A.length ∧ i = .int .i64 k ∧ (∀ j, j < k → rowB (inputsS A) (A.getD j []) = true) ∧ Below w.heap.size w wr) (fun _ i _ => A.length - (intOf i).toNat)
  case atStart => exact ⟨0, by omega, rfl, fun j h => by omega, Below.refl _ _⟩
  case round =>
    obtain ⟨k, hk, rfl, he, hbel⟩ := hrel
    have HR := Lib.hid he; have HBL := Lib.hid hbel
    by_cases hlt : k < A.length
    · have h1 : (k:Int) < A.length := by omega
      have h3 : (0:Int) < A.length := by omega
      have h0 : 0 ≤ (k:Int) := by omega
      have va := HA.out.mono hbel
      obtain ⟨b1, o1, rfl, g1, ra, rc, p0, p1⟩ := va.1.at hlt
      obtain ⟨b2, o2, hbo, g2, ra0, rc0, q0, q1⟩ := va.1.at (show 0 < A.length by omega)
      simp only [Option.some.injEq, Addr.mk.injEq, and_true] at hbo
      obtain ⟨rfl, rfl⟩ := hbo
      have HP := Lib.hid p1
      have hin : (A.getD 0 []).length = inputsS A := by cases A <;> simp [inputsS]
      rw [hin] at q0
      clear va he hbel p1 q1 hin
      simp only [Nat.zero_mul, Nat.add_zero, Nat.mul_one] at p0 q0
      generalize hgx : A.getD k [] = l at *
      have HX := Lib.hid hgx; clear hgx
      by_cases hln : l.length = inputsS A
      · have h5 : ((l.length : Int) != inputsS A) = false := by simp [hln]
        have HLN := Lib.hid hln; clear hln
        go_wp2_with (go_at_call 72; refine (contains_right _ _ _ HP.out).mono ?_; rintro e w1 ⟨rfl, hbw⟩)
        · go_ret
          refine ⟨ret_bool ?_, bthen HBL.out hbw⟩
          have hany : (l.any fun x => decide (9 < x)) = true := by assumption
          have : rightS A = false := by
            unfold rightS; rw [List.all_eq_false]
            exact ⟨l, by rw [← HX.out, List.getD_eq_getElem?_getD]; simp [hlt], by simp [rowB, hany]⟩
          exact this.symm
        · go_roundw
          case rel =>
            have hany : (l.any fun x => decide (9 < x)) = false := by assumption
            refine ⟨k + 1, by omega, by go_num, fun j hj => ?_, bthen HBL.out hbw⟩
            by_cases hjk : j = k
            · subst hjk; rw [HX.out, rowB, hany]; simp [HLN.out]
            · exact HR.out j (by omega)
          case measure => simp [intOf]; omega
      · have h5 : ((l.length : Int) != inputsS A) = true := by simp; omega
        have HLN := Lib.hid hln; clear hln
        go_wp2
        go_ret
        refine ⟨ret_bool ?_, HBL.out⟩
        have : rightS A = false := by
          unfold rightS; rw [List.all_eq_false]
          exact ⟨l, by rw [← HX.out, List.getD_eq_getElem?_getD]; simp [hlt], by simp [rowB, HLN.out]⟩
        exact this.symm
    · clear he hbel
      go_wp2
      go_ret
      obtain rfl : k = A.length := by omega
      refine ⟨ret_bool ?_, HBL.out⟩
      have : rightS A = true := by
        unfold rightS; rw [List.all_eq_true]
        intro l hl
        obtain ⟨j, hj, rfl⟩ := List.getElem_of_mem hl
        have := HR.out j hj
        simpa [hj] using this
      exact this.symm
end Go.Proofs.YtoiemkifgdnhaaaGreatDoor
namespace Go.Proofs.YtoiemkifgdnhaaaGreatDoor
open Go Go.RowKit
def upTo (n : Nat) : List Int := (List.range n).map fun (k : Nat) => (k : Int)
theorem madeCells_int (n : Nat) : (madeCells (Value.int .i64 0).cells (n * 1)).toList = List.replicate n (.int .i64 0) := by
  rw [Nat.mul_one]; exact toList_madeCells_one _ _
def Owned (base : Nat) (e : TypeId) (size n : Nat) (xs : List Value) (w : World) (en : Ending) (w' : World) : Prop :=
  ∃ v, en = .returned v ∧ w'.ownsRow base e size v n xs ∧ Below w.heap.size w w'
theorem set_upTo (n k : Nat) (h : k < n) : ((ci (upTo k) ++ List.replicate (n - k) (Value.int .i64 0)).set k (.int .i64 k)) = ci (upTo (k + 1)) ++ List.replicate (n - (k + 1)) (Value.int .i64 0) := by
  have hl : (ci (upTo k)).length = k := by simp [ci, upTo]
  rw [List.set_append_right _ _ (by omega), hl, Nat.sub_self, show n - k = (n - (k + 1)) + 1 by omega, List.replicate_succ, List.set_cons_zero]
  simp [ci, upTo, List.range_succ]
set_option maxHeartbeats 400000 in
theorem all_call (w : World) (a : Value) (A : List (List Nat)) (ha : ValRows w a A) : Calls Tryz.prog 44 #[a] w (Owned w.heap.size 3 1 A.length (ci (upTo A.length)) w) := by
  obtain ⟨ao, ac, rfl, ha1⟩ := ha.1.open
  have ha2 := ha.2
  obtain ⟨i0, hi, hz0, hz1, hz2⟩ := info_parts info_int
  have Hi := Lib.hid hi; have Hz0 := Lib.hid hz0; have Hz1 := Lib.hid hz1; have Hz2 := Lib.hid hz2
  clear ha hi hz0 hz1 hz2
  go_enter Tryz.func44, Tryz.ntmps44
  go_wp2_with (at_make; refine wpList_make_full _ rfl _ _ 26 rfl w.heap.size 3 i0 (.int .i64 0) 1 und_ints Hi.out Hz0.out Hz1.out _ _ _ _ A.length rfl rfl rfl rfl (by rw [Hz2.out]; omega) (by unfold maxLen; omega) (Nat.le_refl _) ?_; intro w1 hown hgr)
  rw [madeCells_int] at hown
  have hb0 : Below w.heap.size w w1 := (Below.refl _ _).grown hgr (Nat.le_refl _) (by simp)
  go_loopw [4, 10] (fun u i wr => ∃ k : Nat, k ≤ A.length ∧ i = .int .i64 k ∧ wr.ownsRow w.heap.size 3 1 (.slice (some ⟨w.heap.size, 0, none⟩) A.length A.length) A.length (ci (upTo k) ++ List.replicate (A.length - k) (.int .i64 0)) ∧ Below w.heap.size w wr) (fun _ i _ => A.length - (intOf i).toNat)
  case atStart => exact ⟨0, by omega, rfl, by simpa [ci, upTo] using hown, hb0⟩
  case round =>
    obtain ⟨k, hk, rfl, ho, hbel⟩ := hrel
    have HO := Lib.hid ho; have HBL := Lib.hid hbel
    by_cases hlt : k < A.length
    · have h1 : (k:Int) < A.length := by omega
      have h0 : 0 ≤ (k:Int) := by omega
      have hc := ho.cellAt k (by omega)
      have hf := ho.frozenAt k
      have hlk : (ci (upTo k) ++ List.replicate (A.length - k) (Value.int .i64 0))[k]? = some (.int .i64 0) := by
        rw [List.getElem?_append_right (by simp [ci, upTo])]; rw [show (ci (upTo k)).length = k by simp [ci, upTo], Nat.sub_self, List.getElem?_replicate, if_pos (by omega)]
      rw [hlk] at hc
      clear ho hbel hown hgr hb0 hlk
      go_wp2
      go_roundw
      case rel =>
        exact ⟨k + 1, by omega, by go_num, by rw [← set_upTo _ _ hlt]; exact (HO.out.stored k _).1, HBL.out.setCell (Nat.le_refl _) _⟩
      case measure => simp [intOf]; omega
    · clear ho hbel hown hgr hb0
      go_wp2
      go_ret
      obtain rfl : k = A.length := by omega
      exact ⟨_, rfl, by simpa using HO.out, HBL.out⟩
/-- Where a value stands, or would stand. -/
def posOf (xs : List Nat) (v : Nat) : Nat := (xs.takeWhile (· < v)).length
theorem posOf_le (xs : List Nat) (v : Nat) : posOf xs v ≤ xs.length := by unfold posOf; exact (List.takeWhile_prefix _).length_le
theorem posOf_of {xs : List Nat} {v k : Nat} (hk : k ≤ xs.length) (h1 : ∀ j, j < k → xs.getD j 0 < v) (h2 : k < xs.length → v ≤ xs.getD k 0) : posOf xs v = k := by
  induction xs generalizing k with
  | nil => simp at hk; subst hk; rfl
  | cons x xs ih =>
    cases k with
    | zero =>
      have := h2 (by simp)
      simp at this
      simp [posOf, List.takeWhile_cons, Nat.not_lt.2 this]
    | succ k =>
      have h0 := h1 0 (by omega)
      simp at h0
      have := ih (k := k) (by simp at hk; omega) (fun j hj => by simpa using h1 (j + 1) (by omega)) (fun hj => by simpa using h2 (by simp; omega))
      simp only [posOf] at this
      simp [posOf, List.takeWhile_cons, h0, this]
def cmpV (x y : Nat) : Int := if x < y then -1 else if y < x then 1 else 0
end Go.Proofs.YtoiemkifgdnhaaaGreatDoor
namespace Go.Proofs.YtoiemkifgdnhaaaGreatDoor
open Go Go.RowKit
def SCompare : Prop := ∀ (x y : Nat) (c d : Option Addr) (m n : Nat) (w : World), x ≤ 10 → y ≤ 10 → G w →
  Calls Tryz.prog 79 #[va x c m, va y d n] w fun e w' => e = .returned (.int .i64 (cmpV x y)) ∧ Below w.heap.size w w'
theorem sorted_lt {xs : List Nat} (h : xs.Pairwise (· < ·)) {i j : Nat} (hij : i < j) (hj : j < xs.length) : xs.getD i 0 < xs.getD j 0 := by
  have := (List.pairwise_iff_getElem.1 h) i j (by omega) hj hij
  simpa [hj, show i < xs.length by omega] using this
theorem mem_getD {xs : List Nat} {v : Nat} : v ∈ xs ↔ ∃ k, k < xs.length ∧ xs.getD k 0 = v := by
  rw [List.mem_iff_getElem]
  constructor
  · rintro ⟨k, hk, rfl⟩; exact ⟨k, hk, by simp [hk]⟩
  · rintro ⟨k, hk, rfl⟩; exact ⟨k, hk, by simp [hk]⟩
theorem cmpV_neg {x v : Nat} : cmpV x v < 0 ↔ x < v := by unfold cmpV; (repeat' split) <;> omega
theorem cmpV_zero {x v : Nat} : (cmpV x v == 0) = decide (x = v) := by
  unfold cmpV; (repeat' split)
  · rw [decide_eq_false (by omega)]; rfl
  · rw [decide_eq_false (by omega)]; rfl
  · rw [decide_eq_true (by omega)]; rfl
set_option maxHeartbeats 2000000 in
theorem search_call (hC : SCompare) (w : World) (a : Value) (xs : List Nat) (v : Nat) (c : Option Addr) (m : Nat) (ha : Vals w a xs) (hv : v ≤ 10) (hG : G w) (hs : xs.Pairwise (· < ·)) :
    Calls Tryz.prog 78 #[a, va v c m, .func (.func 79) #[] #[]] w
      fun e w' => e = .returned (.tuple #[.int .i64 (posOf xs v), .bool (decide (v ∈ xs))]) ∧ Below w.heap.size w w' := by
  have hV := ha.mono (below1 w (.cells #[.int .i64 (kd v), .string (st v), .int .i64 (dn v), .int .i64 0, .int .i64 (nn v), .slice c 0 m, .slice none 0 0] 47))
  have hGW := hG.mono (below1 w (.cells #[.int .i64 (kd v), .string (st v), .int .i64 (dn v), .int .i64 0, .int .i64 (nn v), .slice c 0 m, .slice none 0 0] 47))
  obtain ⟨W, hW⟩ : ∃ W, W = w.alloc (.cells #[.int .i64 (kd v), .string (st v), .int .i64 (dn v), .int .i64 0, .int .i64 (nn v), .slice c 0 m, .slice none 0 0] 47) := ⟨_, rfl⟩
  rw [← hW] at hV hGW
  have HA := Lib.hid hV
  have HS := Lib.hid hs
  have HG := Lib.hid hGW
  obtain ⟨ao, ac, rfl, ha1⟩ := ha.1.open
  have ha2 := ha.2.1
  have e0 : W.cell? ⟨w.heap.size, 0, none⟩ = some (.int .i64 (kd v)) := by rw [hW]; go_simp
  have e1 : W.cell? ⟨w.heap.size, 1, none⟩ = some (.string (st v)) := by rw [hW]; go_simp
  have e2 : W.cell? ⟨w.heap.size, 2, none⟩ = some (.int .i64 (dn v)) := by rw [hW]; go_simp
  have e3 : W.cell? ⟨w.heap.size, 3, none⟩ = some (.int .i64 0) := by rw [hW]; go_simp
  have e4 : W.cell? ⟨w.heap.size, 4, none⟩ = some (.int .i64 (nn v)) := by rw [hW]; go_simp
  have e5 : W.cell? ⟨w.heap.size, 5, none⟩ = some (.slice c 0 m) := by rw [hW]; go_simp
  have e6 : W.cell? ⟨w.heap.size, 6, none⟩ = some (.slice none 0 0) := by rw [hW]; go_simp
  have z0 : w.heap.size < W.heap.size := by rw [hW]; simp
  have HBW := Lib.hid (show Below w.heap.size w W by rw [hW]; exact below1 _ _)
  clear ha hs hG hV hGW
  go_enter Tryz.func78, Tryz.ntmps78
  go_wp2_with fail
  rw [← hW]
  clear hW
  go_loopw [9, 10, 11] (fun i j h wr => ∃ p q : Nat, p ≤ q ∧ q ≤ xs.length ∧ i = .int .i64 p ∧ j = .int .i64 q ∧ (∀ k, k < p → xs.getD k 0 < v) ∧ (∀ k, q ≤ k → k < xs.length → v ≤ xs.getD k 0) ∧ Below W.heap.size W wr)
    (fun i j _ _ => (intOf j).toNat - (intOf i).toNat)
  case atStart => exact ⟨0, xs.length, by omega, by omega, rfl, rfl, fun k h => by omega, fun k h h' => by omega, Below.refl _ _⟩
  case round =>
    obtain ⟨p, q, hpq, hq, rfl, rfl, hlo, hhi, hbel⟩ := hrel
    have HLO := Lib.hid hlo; have HHI := Lib.hid hhi; have HBL := Lib.hid hbel
    have hc := olds hbel
    by_cases hlt : p < q
    · have h1 : (p:Int) < q := by omega
      have h0 : 0 ≤ (p:Int) := by omega
      have h3 : (q:Int) ≤ 1000 := by omega
      clear hlo hhi hbel
      go_wp2_with fail
      obtain ⟨h, hh⟩ : ∃ h : Nat, ((p : Int) + q) / 2 = h := ⟨(p + q) / 2, by omega⟩
      simp only [hh]
      have k1 : p ≤ h := by omega
      have k2 : h < q := by omega
      have HH := Lib.hid hh; clear hh
      have k3 : (h : Int) < xs.length := by omega
      have k4 : 0 ≤ (h : Int) := by omega
      obtain ⟨b1, o1, rfl, g1, c1, d1, p0, p1, p2, p3, p4, p5, p6⟩ := (HA.out.mono HBL.out).1.at (show h < xs.length by omega)
      have hx : xs.getD h 0 ≤ 10 := getD_le HA.out.2.2 (by omega)
      have z1 : w.heap.size < wr.heap.size := by have := HBL.out.size; omega
      have r0 := (hc _ 0 z0).trans e0
      have r1 := (hc _ 1 z0).trans e1
      have r2 := (hc _ 2 z0).trans e2
      have r3 := (hc _ 3 z0).trans e3
      have r4 := (hc _ 4 z0).trans e4
      have r5 := (hc _ 5 z0).trans e5
      have r6 := (hc _ 6 z0).trans e6
      clear hc
      generalize hgx : xs.getD h 0 = x at *
      have HX := Lib.hid hgx; clear hgx
      go_region_held3 (fun w' => wr.heap.size ≤ w'.heap.size ∧ ∀ b o, b < wr.heap.size → w'.cell? ⟨b, o, none⟩ = wr.cell? ⟨b, o, none⟩) (first | with_reducible exact ks (Below.refl _ _) | exact ks (by repeat (first | with_reducible exact Below.refl _ _ | with_reducible assumption | with_reducible refine Below.drew ?_ | with_reducible refine Below.alloc ?_ (by first | omega | (simp; done) | (simp; omega)) _ | with_reducible refine Below.setCell ?_ (by first | omega | (simp; done) | (simp; omega)) _))) (first | (go_at_call 79; refine (hC _ _ _ _ _ _ _ hx hv ?_).mono ?_; (exact (HG.out.mono HBL.out).of (by assumption)); rintro e w1 ⟨rfl, hbw0⟩; have hbw := bdrew hbw0; clear hbw0))
      go_wp2
      · go_roundw
        case rel =>
          have hxv : cmpV x v < 0 := by assumption
          rw [cmpV_neg] at hxv
          refine ⟨h + 1, q, by omega, hq, by go_num, rfl, fun k hk => ?_, HHI.out, bthen HBL.out hbw⟩
          by_cases hkh : k = h
          · subst hkh; rw [HX.out]; exact hxv
          · have := sorted_lt HS.out (show k < h by omega) (by omega); rw [HX.out] at this; omega
        case measure => simp [intOf]; omega
      · go_roundw
        case rel =>
          have hxv : 0 ≤ cmpV x v := by assumption
          have hxv : ¬ cmpV x v < 0 := by omega
          rw [cmpV_neg] at hxv
          refine ⟨p, h, k1, by omega, rfl, rfl, HLO.out, fun k hk hkl => ?_, bthen HBL.out hbw⟩
          by_cases hkh : k = h
          · subst hkh; rw [HX.out]; omega
          · have := sorted_lt HS.out (show h < k by omega) (by omega); rw [HX.out] at this; omega
        case measure => simp [intOf]; omega
    · obtain rfl : p = q := by omega
      have hpos : posOf xs v = p := posOf_of hq HLO.out (fun h => HHI.out p (Nat.le_refl _) h)
      have HPOS := Lib.hid hpos
      have h0 : 0 ≤ (p:Int) := by omega
      clear hlo hhi hbel hpos
      by_cases hpn : p < xs.length
      · have k3 : (p : Int) < xs.length := by omega
        have k5 : decide ((p : Int) < xs.length) = true := by simpa using hpn
        obtain ⟨b1, o1, rfl, g1, c1, d1, p0, p1, p2, p3, p4, p5, p6⟩ := (HA.out.mono HBL.out).1.at hpn
        have hx : xs.getD p 0 ≤ 10 := getD_le HA.out.2.2 (by omega)
        have z1 : w.heap.size < wr.heap.size := by have := HBL.out.size; omega
        have r0 := (hc _ 0 z0).trans e0
        have r1 := (hc _ 1 z0).trans e1
        have r2 := (hc _ 2 z0).trans e2
        have r3 := (hc _ 3 z0).trans e3
        have r4 := (hc _ 4 z0).trans e4
        have r5 := (hc _ 5 z0).trans e5
        have r6 := (hc _ 6 z0).trans e6
        clear hc
        generalize hgx : xs.getD p 0 = x at *
        have HX := Lib.hid hgx; clear hgx
        go_wp2_with fail
        go_region_held3 (fun w' => wr.heap.size ≤ w'.heap.size ∧ ∀ b o, b < wr.heap.size → w'.cell? ⟨b, o, none⟩ = wr.cell? ⟨b, o, none⟩) (first | with_reducible exact ks (Below.refl _ _) | exact ks (by repeat (first | with_reducible exact Below.refl _ _ | with_reducible assumption | with_reducible refine Below.drew ?_ | with_reducible refine Below.alloc ?_ (by first | omega | (simp; done) | (simp; omega)) _ | with_reducible refine Below.setCell ?_ (by first | omega | (simp; done) | (simp; omega)) _))) (first | (go_at_call 79; refine (hC _ _ _ _ _ _ _ hx hv ?_).mono ?_; (exact (HG.out.mono HBL.out).of (by assumption)); rintro e w1 ⟨rfl, hbw0⟩; have hbw := bdrew hbw0; clear hbw0))
        go_wp2
        go_ret2
        refine ⟨?_, bthen HBW.out (bthen HBL.out hbw)⟩
        have hm : decide (v ∈ xs) = decide (x = v) := by
          by_cases hxv : x = v
          · rw [decide_eq_true hxv, decide_eq_true]; rw [mem_getD]; exact ⟨p, hpn, by rw [HX.out]; exact hxv⟩
          · rw [decide_eq_false hxv, decide_eq_false]
            rw [mem_getD]; rintro ⟨k, hk, hkv⟩
            rcases Nat.lt_trichotomy k p with h | h | h
            · have := HLO.out k h; omega
            · subst h; rw [HX.out] at hkv; exact hxv hkv
            · have h2 := sorted_lt HS.out h hk; rw [HX.out] at h2
              have h3 := HHI.out p (Nat.le_refl _) hpn; rw [HX.out] at h3; omega
        simp [HPOS.out, hm, cmpV_zero]
      · have k5 : decide ((p : Int) < xs.length) = false := by simpa using hpn
        clear hc
        go_wp2_with fail
        go_quiet (fail)
        go_wp2
        go_ret2
        have hm : decide (v ∈ xs) = false := by
          rw [decide_eq_false_iff_not, mem_getD]; rintro ⟨k, hk, hkv⟩
          have := HLO.out k (by omega); omega
        exact ⟨by simp [HPOS.out, hm], bthen HBW.out (HBL.out.trans (Below.mk rfl rfl rfl (Nat.le_refl _) (fun _ _ => rfl)))⟩
end Go.Proofs.YtoiemkifgdnhaaaGreatDoor
