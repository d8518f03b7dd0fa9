/- The examples of the document. No conditions.
  Answers by numbers: the values. No conditions.
  Answers by numbers: the walk. No conditions.
  The depth and the lower bound: plain laws. No program in sight.
  QuestionLeast: the walk. No conditions. -/
import Derived.Test.YtoiemkifgdnhaaaGreatDoorL13
import Derived.Deep.AppendLies
namespace Go.Proofs.YtoiemkifgdnhaaaGreatDoor
open Go Go.RowKit
theorem own3 {W : World} {B g1 g2 g3 : Nat} {v u1 u2 u3 : Value} {z1 z2 z3 : List ZV} (h : W.ownsRow B 42 1 v 3 [u1, u2, u3]) (o1 : W.ownsRow B 47 7 u1 z1.length (cvs z1)) (o2 : W.ownsRow B 47 7 u2 z2.length (cvs z2)) (o3 : W.ownsRow B 47 7 u3 z3.length (cvs z3))
    (e1 : u1.ownBlock = some g1) (e2 : u2.ownBlock = some g2) (e3 : u3.ownBlock = some g3) (h12 : g1 < g2) (h23 : g2 < g3) : OwnRows W B v [z1, z2, z3] := by
  refine ⟨[u1, u2, u3], h, rfl, fun k u zs hu hz => ?_, fun j k u u' g hjk hu hu' hg hg' => ?_⟩
  · match k, hu, hz with
    | 0, hu, hz => cases hu; cases hz; exact o1
    | 1, hu, hz => cases hu; cases hz; exact o2
    | 2, hu, hz => cases hu; cases hz; exact o3
    | k + 3, hu, _ => simp at hu
  · have key : ∀ (i : Nat) (x : Value), ([u1, u2, u3] : List Value)[i]? = some x → x.ownBlock = some (if i = 0 then g1 else if i = 1 then g2 else g3) ∧ i < 3 := by
      intro i x hx
      match i, hx with
      | 0, hx => cases hx; exact ⟨e1, by omega⟩
      | 1, hx => cases hx; exact ⟨e2, by omega⟩
      | 2, hx => cases hx; exact ⟨e3, by omega⟩
      | i + 3, hx => simp at hx
    obtain ⟨k1, l1⟩ := key j u hu
    obtain ⟨k2, l2⟩ := key k u' hu'
    rw [hg] at k1; rw [hg'] at k2
    simp only [Option.some.injEq] at k1 k2
    split at k1 <;> split at k2 <;> (try split at k1) <;> (try split at k2) <;> omega
def A0 : List (List Nat) := [[4, 5], [4, 6], [5, 5]]
def A1 : List (List Nat) := [[4, 5, 8], [4, 6, 8], [5, 5, 8]]
theorem ints_new2 (w : World) (a b : Int) (t : TypeId) (ha : -100 ≤ a ∧ a ≤ 100) (hb : -100 ≤ b ∧ b ≤ 100) : Ints (w.alloc (.cells #[.int .i64 a, .int .i64 b] t)) (.slice (some ⟨w.heap.size, 0, none⟩) 2 2) [a, b] := by
  refine ⟨⟨_, 2, rfl, by simp, fun _ => ⟨_, 0, rfl, by simp, fun k hk => ?_⟩⟩, by simp, by simp; omega⟩
  have : k = 0 ∨ k = 1 := by simp at hk; omega
  rcases this with rfl | rfl <;> simp
theorem ints_new1 (w : World) (a : Int) (t : TypeId) (ha : -100 ≤ a ∧ a ≤ 100) : Ints (w.alloc (.cells #[.int .i64 a] t)) (.slice (some ⟨w.heap.size, 0, none⟩) 1 1) [a] := by
  refine ⟨⟨_, 1, rfl, by simp, fun _ => ⟨_, 0, rfl, by simp, fun k hk => ?_⟩⟩, by simp, by simp; omega⟩
  have : k = 0 := by simp at hk; omega
  subst this; simp
theorem ints_new3 (w : World) (a b c : Int) (t : TypeId) (ha : -100 ≤ a ∧ a ≤ 100) (hb : -100 ≤ b ∧ b ≤ 100) (hc : -100 ≤ c ∧ c ≤ 100) : Ints (w.alloc (.cells #[.int .i64 a, .int .i64 b, .int .i64 c] t)) (.slice (some ⟨w.heap.size, 0, none⟩) 3 3) [a, b, c] := by
  refine ⟨⟨_, 3, rfl, by simp, fun _ => ⟨_, 0, rfl, by simp, fun k hk => ?_⟩⟩, by simp, by simp; omega⟩
  have : k = 0 ∨ k = 1 ∨ k = 2 := by simp at hk; omega
  rcases this with rfl | rfl | rfl <;> simp
/-- Two questions that lie in a new block. -/
theorem asks_new2 (w : World) (t : TypeId) (i j : Int) (va_ vb na nb : Value) (xs ys : List Nat) (ms ns : List Int) (h1 : Vals w va_ xs) (h2 : Vals w vb ys) (h3 : Ints w na ms) (h4 : Ints w nb ns) (hi : -100 ≤ i ∧ i ≤ 100) (hj : -100 ≤ j ∧ j ≤ 100) :
    AskRows (w.alloc (.cells #[.int .i64 i, va_, na, .int .i64 j, vb, nb] t)) (.slice (some ⟨w.heap.size, 0, none⟩) 2 2) [(i, xs, ms), (j, ys, ns)] := by
  have hb := below1 w (.cells #[.int .i64 i, va_, na, .int .i64 j, vb, nb] t)
  obtain ⟨a1, c1, rfl, _⟩ := h1.1.open
  obtain ⟨a2, c2, rfl, _⟩ := h2.1.open
  obtain ⟨a3, c3, rfl, _⟩ := h3.1.open
  obtain ⟨a4, c4, rfl, _⟩ := h4.1.open
  refine ⟨⟨_, 2, rfl, by simp, fun _ => ⟨_, 0, rfl, by simp, fun k hk => ?_⟩⟩, by simp, by simp; omega⟩
  have : k = 0 ∨ k = 1 := by simp at hk; omega
  rcases this with rfl | rfl
  · exact ⟨by simp, ⟨a1, c1, by simp, h1.mono hb⟩, ⟨a3, c3, by simp, h3.mono hb⟩⟩
  · exact ⟨by simp, ⟨a2, c2, by simp, h2.mono hb⟩, ⟨a4, c4, by simp, h4.mono hb⟩⟩
theorem bstep2 {w a b : World} {o o' : Obj} (h : Below w.heap.size w a) (p : Below ((a.alloc o).alloc o').heap.size ((a.alloc o).alloc o') b) : Below w.heap.size w b := bstep (h.alloc h.size o) p
theorem int_rows_new2 (w : World) (t : TypeId) (u v : Value) (xs ys : List Int) (h1 : Ints w u xs) (h2 : Ints w v ys) : IntRows (w.alloc (.cells #[u, v] t)) (.slice (some ⟨w.heap.size, 0, none⟩) 2 2) [xs, ys] := by
  have hb := below1 w (.cells #[u, v] t)
  obtain ⟨a1, c1, rfl, _⟩ := h1.1.open
  obtain ⟨a2, c2, rfl, _⟩ := h2.1.open
  refine ⟨⟨_, 2, rfl, by simp, fun _ => ⟨_, 0, rfl, by simp, fun k hk => ?_⟩⟩, by simp⟩
  have : k = 0 ∨ k = 1 := by simp at hk; omega
  rcases this with rfl | rfl
  · exact ⟨a1, c1, by simp, h1.mono hb⟩
  · exact ⟨a2, c2, by simp, h2.mono hb⟩
theorem below3 (w : World) (a b c : Obj) : Below w.heap.size w (((w.alloc a).alloc b).alloc c) := bstep2 (bstep (Below.refl _ _) (Below.refl _ _)) (Below.refl _ _)
def zrow : Nat → List ZV
  | 0 => [(4, none, 0), (5, none, 0)] | 1 => [(4, none, 0), (6, none, 0)] | _ => [(5, none, 0), (5, none, 0)]
def zN (k : Nat) : List (List ZV) := (List.range 3).map fun j => if j < k then zrow j ++ [(8, none, 0)] else zrow j
theorem zN_len (k : Nat) : (zN k).length = 3 := by simp [zN]
theorem zN_get {k : Nat} (hk : k < 3) : (zN k)[k]? = some (zrow k) ∧ (zrow k).length = 2 ∧ (zN k).set k (zrow k ++ [(8, none, 0)]) = zN (k + 1) := by
  have : k = 0 ∨ k = 1 ∨ k = 2 := by omega
  rcases this with rfl | rfl | rfl <;> exact ⟨rfl, rfl, rfl⟩
def Q0 : List Ask := [(0, [4, 5], [1, -1]), (1, [5, 6], [-1, -1])]
set_option maxRecDepth 100000 in
theorem mk2 : makeS A0 2 = ⟨Q0, 2, 2⟩ ∧ makeE A0 2 = 0 := ⟨by kernel_rfl, by kernel_rfl⟩
set_option maxRecDepth 100000 in
theorem mk1 : makeS A0 1 = ⟨[], 0, 0⟩ ∧ makeE A0 1 = 16 := ⟨by kernel_rfl, by kernel_rfl⟩
set_option maxRecDepth 100000 in
theorem gr0 : groupsS A0 [0, 1, 2] 0 = [[0, 1], [2]] := by kernel_rfl
set_option maxRecDepth 100000 in
theorem us1 : usefulS A1 (inputsS A1) = [0, 1] := by kernel_rfl
def P0 : PlanI := planI ⟨Q0, 2, 2⟩
set_option maxRecDepth 100000 in
theorem fo0 : followS P0.asks [5] = (-1, true) ∧ followS P0.asks [4] = (1, true) ∧ followS P0.asks [4, 6] = (-1, true) ∧ followS P0.asks [7] = (-1, false) := ⟨by kernel_rfl, by kernel_rfl, by kernel_rfl, by kernel_rfl⟩
set_option maxRecDepth 100000 in
set_option maxHeartbeats 1000000 in
theorem sanity_call (w : World) (hG : G w) (hT : GT w) : Calls Tryz.prog 10 #[] w fun e w' => e = .returned (.bool true) ∧ Below w.heap.size w w' := by
  have HG := Lib.hid hG; have HT := Lib.hid hT
  clear hG hT
  go_enter Tryz.func10, Tryz.ntmps10
  go_wp2_with fail
  refine (n1 _).mono ?_; rintro e a1 ⟨rfl, p1⟩
  go_wp2_with fail
  refine (n2 _).mono ?_; rintro e a2 ⟨rfl, p2⟩
  go_wp2_with fail
  refine (n1 _).mono ?_; rintro e a3 ⟨rfl, p3⟩
  go_wp2_with fail
  refine (n3 _).mono ?_; rintro e a4 ⟨rfl, p4⟩
  go_wp2_with fail
  refine (n2 _).mono ?_; rintro e a5 ⟨rfl, p5⟩
  go_wp2_with fail
  refine (n2 _).mono ?_; rintro e a6 ⟨rfl, p6⟩
  go_wp2_with fail
  have q2 := bthen p1 p2
  have q4 := bthen (bstep q2 p3) p4
  have q6 := bthen (bstep q4 p5) p6
  have o1 := own_below (own_below (own_below (own_below (own_new2 a2 w.heap.size 4 5 q2.size) p3) p4) (bin p5)) p6
  have o2 := own_below (own_below (own_new2 a4 w.heap.size 4 6 q4.size) p5) p6
  have o3 := own_new2 a6 w.heap.size 5 5 q6.size
  have o4 := own_new (a6.alloc (.cells (cv (5, none, 0) ++ cv (5, none, 0)).toArray 47)) w.heap.size 42 1 3 [.slice (some ⟨a2.heap.size, 0, none⟩) 2 2, .slice (some ⟨a4.heap.size, 0, none⟩) 2 2, .slice (some ⟨a6.heap.size, 0, none⟩) 2 2] (by have := q6.size; simp; omega) rfl (by unfold maxLen; omega)
  have s3 := p3.size; have s4 := p4.size; have s5 := p5.size; have s6 := p6.size
  have t3 : a2.heap.size < a3.heap.size := by simp at s3; omega
  have t5 : a4.heap.size < a5.heap.size := by simp at s5; omega
  have hR := own3 (z1 := [(4, none, 0), (5, none, 0)]) (z2 := [(4, none, 0), (6, none, 0)]) (z3 := [(5, none, 0), (5, none, 0)]) o4 (own_below o1 ((Below.refl _ _).alloc (Nat.le_refl _) _ |>.alloc (by simp) _)) (own_below o2 ((Below.refl _ _).alloc (Nat.le_refl _) _ |>.alloc (by simp) _)) (own_below o3 (below1 _ _)) rfl rfl rfl (show a2.heap.size < a4.heap.size by omega) (show a4.heap.size < a6.heap.size by omega)
  have hB := (q6.alloc q6.size (.cells (cv (5, none, 0) ++ cv (5, none, 0)).toArray 47)).alloc (by have := q6.size; simp; omega) (.cells ([.slice (some ⟨a2.heap.size, 0, none⟩) 2 2, .slice (some ⟨a4.heap.size, 0, none⟩) 2 2, .slice (some ⟨a6.heap.size, 0, none⟩) 2 2] : List Value).toArray 42)
  obtain ⟨W0, hW0⟩ : ∃ W0, W0 = (a6.alloc (.cells #[.int .i64 (kd 5), .string (st 5), .int .i64 (dn 5), .int .i64 0, .int .i64 (nn 5), .slice none 0 0, .slice none 0 0, .int .i64 (kd 5), .string (st 5), .int .i64 (dn 5), .int .i64 0, .int .i64 (nn 5), .slice none 0 0, .slice none 0 0] 47)).alloc (.cells #[.slice (some ⟨a2.heap.size, 0, none⟩) 2 2, .slice (some ⟨a4.heap.size, 0, none⟩) 2 2, .slice (some ⟨a6.heap.size, 0, none⟩) 2 2] 42) := ⟨_, rfl⟩
  obtain ⟨T, hT⟩ : ∃ T, T = a6.heap.size + 1 := ⟨_, rfl⟩
  have hR0 : OwnRows W0 w.heap.size (.slice (some ⟨T, 0, none⟩) 3 3) [[(4, none, 0), (5, none, 0)], [(4, none, 0), (6, none, 0)], [(5, none, 0), (5, none, 0)]] := by
    have e : (a6.alloc (.cells (cv (5, none, 0) ++ cv (5, none, 0)).toArray 47)).heap.size = T := by rw [hT]; simp
    rw [e] at hR
    rw [hW0]; exact hR
  have hB0 : Below w.heap.size w W0 := by rw [hW0]; exact hB
  rw [← hW0, ← hT]
  have HR := Lib.hid hR0; have HB := Lib.hid hB0
  have HV := Lib.hid (show ValRows W0 (.slice (some ⟨T, 0, none⟩) 3 3) A0 from hR0.rows (by simp) (by intro zs hz; simp at hz; rcases hz with rfl | rfl | rfl <;> simp))
  clear hT hW0 hR hB o1 o2 o3 o4 q2 q4 q6 p1 p2 p3 p4 p5 p6 s3 s4 s5 s6 t3 t5 hR0 hB0
  refine (Make_call W0 _ A0 2 HV.out (HG.out.mono HB.out) (HT.out.mono HB.out) (by decide)).mono ?_
  rintro e b1 ⟨v1, rfl, hp1, hb1⟩
  rw [mk2.2]
  have hpl := hp1.reads
  rw [mk2.1] at hp1
  obtain ⟨pa, os, rfl, hq⟩ := hp1
  obtain ⟨pa, pc, rfl⟩ := own_slice hq.own
  have HPL := Lib.hid hpl; have HB1 := Lib.hid hb1
  clear hpl hq hb1
  go_wp2_with fail
  refine (Make_call _ _ A0 1 (HV.out.mono (HB1.out.trans ((below1 b1 _).mono HB1.out.size))) (HG.out.mono (HB.out.trans ((HB1.out.trans ((below1 b1 _).mono HB1.out.size)).mono HB.out.size))) (HT.out.mono (HB.out.trans ((HB1.out.trans ((below1 b1 _).mono HB1.out.size)).mono HB.out.size))) (by decide)).mono ?_
  rintro e b2 ⟨v2, rfl, hp2, hb2⟩
  rw [mk1.2]
  rw [mk1.1] at hp2
  obtain ⟨pa2, os2, rfl, hq2⟩ := hp2
  obtain ⟨pa2, pc2, rfl⟩ := own_slice hq2.own
  have HB2 := Lib.hid hb2
  clear hq2 hb2
  go_wp2_with fail
  refine (n1 _).mono ?_; rintro e c1 ⟨rfl, p1⟩
  go_wp2_with fail
  refine (n2 _).mono ?_; rintro e c2 ⟨rfl, p2⟩
  go_wp2_with fail
  refine (n2 _).mono ?_; rintro e c3 ⟨rfl, p3⟩
  go_wp2_with fail
  refine (n3 _).mono ?_; rintro e c4 ⟨rfl, p4⟩
  have hc2 := bthen (bstep HB2.out p1) p2
  have hc4 := bthen (bstep2 hc2 p3) p4
  have x0 : c4.cell? ⟨b1.heap.size, 0, none⟩ = some (.slice pa Q0.length pc) := (olds hc4 _ _ (by simp)).trans (by simp)
  have x1 : c4.cell? ⟨b1.heap.size, 1, none⟩ = some (.int .i64 2) := (olds hc4 _ _ (by simp)).trans (by simp)
  have x2 : c4.cell? ⟨b1.heap.size, 2, none⟩ = some (.int .i64 2) := (olds hc4 _ _ (by simp)).trans (by simp)
  have hbw := bstep (bthen HB.out HB1.out) hc4
  have hp4 := bin hc4
  have hw0 := bthen HB1.out hp4
  have hV1 := ((vals_own2 (own_new2 c2 0 4 5 (Nat.zero_le _)) (by omega) (by omega)).mono (bin p3)).mono p4
  have hI1 := ((ints_new2 (c2.alloc (.cells (cv (4, none, 0) ++ cv (5, none, 0)).toArray 47)) 1 (-1) 3 (by omega) (by omega)).mono p3).mono p4
  have hps : b1.heap.size < c4.heap.size := by have := hc4.size; simp at this; omega
  have hps4 : b1.heap.size < c4.heap.size + 1 + 1 + 1 + 1 := by omega
  have hV := Lib.hid hV1; have hI := Lib.hid hI1; have HBW := Lib.hid hbw; have HP4 := Lib.hid hp4; have HW0 := Lib.hid hw0
  have HPL2 := Lib.hid (by have := HPL.out; rw [mk2.1] at this; exact this)
  clear hc2 hc4 hV1 hI1 hbw hp4 hw0 p1 p2 p3 p4
  go_upto_region 5 with (fail)
  obtain ⟨X, hX⟩ : ∃ X, X = (((c4.alloc (.cells #[.int .i64 (kd 5), .string (st 5), .int .i64 (dn 5), .int .i64 0, .int .i64 (nn 5), .slice none 0 0, .slice none 0 0, .int .i64 (kd 6), .string (st 6), .int .i64 (dn 6), .int .i64 0, .int .i64 (nn 6), .slice none 0 0, .slice none 0 0] 47)).alloc (.cells #[.int .i64 (-1), .int .i64 (-1)] 3)).alloc (.cells #[.int .i64 0, .slice (some ⟨c2.heap.size, 0, none⟩) 2 2, .slice (some ⟨c2.heap.size + 1, 0, none⟩) 2 2, .int .i64 1, .slice (some ⟨c4.heap.size, 0, none⟩) 2 2, .slice (some ⟨c4.heap.size + 1, 0, none⟩) 2 2] 59)).alloc (.cells #[.slice (some ⟨c4.heap.size + 1 + 1, 0, none⟩) 2 2, .int .i64 2, .int .i64 2] 29) := ⟨_, rfl⟩
  have hbX : Below c4.heap.size c4 X := by rw [hX]; exact (bstep2 (bstep2 (Below.refl _ _) (Below.refl _ _)) (Below.refl _ _))
  have hAS : AskRows X (.slice (some ⟨c4.heap.size + 1 + 1, 0, none⟩) 2 2) P0.asks := by
    have e1 : (c2.alloc (.cells (cv (4, none, 0) ++ cv (5, none, 0)).toArray 47)).heap.size = c2.heap.size + 1 := by simp
    have hI2 := hI.out
    rw [e1] at hI2
    have h := (asks_new2 ((c4.alloc (.cells (cv (5, none, 0) ++ cv (6, none, 0)).toArray 47)).alloc (.cells #[.int .i64 (-1), .int .i64 (-1)] 3)) 59 0 1 _ _ _ _ _ _ _ _ (hV.out.mono (below2 _ _ _)) ((vals_own2 (own_new2 c4 0 5 6 (Nat.zero_le _)) (by omega) (by omega)).mono (below1 _ _)) (hI2.mono (below2 _ _ _)) (ints_new2 (c4.alloc (.cells (cv (5, none, 0) ++ cv (6, none, 0)).toArray 47)) (-1) (-1) 3 (by omega) (by omega)) (by omega) (by omega)).mono (below1 _ (.cells #[.slice (some ⟨c4.heap.size + 1 + 1, 0, none⟩) 2 2, .int .i64 2, .int .i64 2] 29))
    have e2 : (c4.alloc (.cells (cv (5, none, 0) ++ cv (6, none, 0)).toArray 47)).heap.size = c4.heap.size + 1 := by simp
    have e3 : ((c4.alloc (.cells (cv (5, none, 0) ++ cv (6, none, 0)).toArray 47)).alloc (.cells #[.int .i64 (-1), .int .i64 (-1)] 3)).heap.size = c4.heap.size + 1 + 1 := by simp
    rw [e3, e2] at h
    rw [hX]; exact h
  have hyb : X.heap[c4.heap.size + 1 + 1 + 1]? = some (.cells #[.slice (some ⟨c4.heap.size + 1 + 1, 0, none⟩) 2 2, .int .i64 2, .int .i64 2] 29) := by
    have e4 : (((c4.alloc (.cells #[.int .i64 (kd 5), .string (st 5), .int .i64 (dn 5), .int .i64 0, .int .i64 (nn 5), .slice none 0 0, .slice none 0 0, .int .i64 (kd 6), .string (st 6), .int .i64 (dn 6), .int .i64 0, .int .i64 (nn 6), .slice none 0 0, .slice none 0 0] 47)).alloc (.cells #[.int .i64 (-1), .int .i64 (-1)] 3)).alloc (.cells #[.int .i64 0, .slice (some ⟨c2.heap.size, 0, none⟩) 2 2, .slice (some ⟨c2.heap.size + 1, 0, none⟩) 2 2, .int .i64 1, .slice (some ⟨c4.heap.size, 0, none⟩) 2 2, .slice (some ⟨c4.heap.size + 1, 0, none⟩) 2 2] 59)).heap.size = c4.heap.size + 1 + 1 + 1 := by simp
    have h := heap_alloc_new (((c4.alloc (.cells #[.int .i64 (kd 5), .string (st 5), .int .i64 (dn 5), .int .i64 0, .int .i64 (nn 5), .slice none 0 0, .slice none 0 0, .int .i64 (kd 6), .string (st 6), .int .i64 (dn 6), .int .i64 0, .int .i64 (nn 6), .slice none 0 0, .slice none 0 0] 47)).alloc (.cells #[.int .i64 (-1), .int .i64 (-1)] 3)).alloc (.cells #[.int .i64 0, .slice (some ⟨c2.heap.size, 0, none⟩) 2 2, .slice (some ⟨c2.heap.size + 1, 0, none⟩) 2 2, .int .i64 1, .slice (some ⟨c4.heap.size, 0, none⟩) 2 2, .slice (some ⟨c4.heap.size + 1, 0, none⟩) 2 2] 59)) (.cells #[.slice (some ⟨c4.heap.size + 1 + 1, 0, none⟩) 2 2, .int .i64 2, .int .i64 2] 29)
    rw [e4] at h
    rw [hX]; exact h
  have y0 : X.cell? ⟨c4.heap.size + 1 + 1 + 1, 0, none⟩ = some (.slice (some ⟨c4.heap.size + 1 + 1, 0, none⟩) 2 2) := cell_of_row _ _ _ _ _ _ hyb
  have y1 : X.cell? ⟨c4.heap.size + 1 + 1 + 1, 1, none⟩ = some (.int .i64 2) := cell_of_row _ _ _ _ _ _ hyb
  have y2 : X.cell? ⟨c4.heap.size + 1 + 1 + 1, 2, none⟩ = some (.int .i64 2) := cell_of_row _ _ _ _ _ _ hyb
  have z0 := (olds hbX _ _ hps).trans x0
  have z1 := (olds hbX _ _ hps).trans x1
  have z2 := (olds hbX _ _ hps).trans x2
  have hpx : b1.heap.size < X.heap.size := Nat.lt_of_lt_of_le hps hbX.size
  have HAS := Lib.hid hAS; have HBX := Lib.hid hbX
  rw [← hX]
  obtain ⟨P, hP⟩ : ∃ P, P = b1.heap.size := ⟨_, rfl⟩
  obtain ⟨Z, hZ⟩ : ∃ Z, Z = c4.heap.size + 1 + 1 + 1 := ⟨_, rfl⟩
  rw [← hP] at z0 z1 z2 hpx
  rw [← hZ] at y0 y1 y2
  rw [← hP, ← hZ]
  clear hyb hX hbX hAS x0 x1 x2 hps hps4 hP hZ
  have BX := Lib.hid (bthen HBW.out HBX.out)
  have B0X := Lib.hid (bthen HW0.out HBX.out)
  have BPX := Lib.hid (bthen HP4.out HBX.out)
  go_wp2_with (first | (go_at_call 14; refine (same25_call _ _ _ P0 (HPL2.out.mono BPX.out) ⟨_, rfl, HAS.out⟩).mono ?_; rintro e w5 ⟨rfl, hb5⟩; have hc5 := olds hb5; have hz5 := hb5.size) | (go_at_call 15; refine (Check_call _ _ _ A0 2 (HV.out.mono (bthen B0X.out hb5)) (HPL.out.mono (bthen BPX.out hb5)) (HG.out.mono (bthen BX.out hb5)) (by decide) mk2.2).mono ?_; rintro e w6 ⟨rfl, hb6⟩) | (go_at_call 18; refine (Groups_call _ _ _ A0 [0, 1, 2] 0 (HV.out.mono (bstep (bthen (bthen B0X.out hb5) hb6) (Below.refl _ _))) (ints_new3 w6 0 1 2 3 (by omega) (by omega) (by omega)) (HG.out.mono (bstep (bthen (bthen BX.out hb5) hb6) (Below.refl _ _))) (by decide)).mono ?_; rintro e w7 ⟨o7, rfl, hl7, hb7⟩; rw [gr0] at hl7; obtain ⟨a7, c7, rfl⟩ := hl7.slice))
  have hL2 : IntRows (((w7.alloc (.cells #[.int .i64 0, .int .i64 1] 3)).alloc (.cells #[.int .i64 2] 3)).alloc (.cells #[.slice (some ⟨w7.heap.size, 0, none⟩) 2 2, .slice (some ⟨w7.heap.size + 1, 0, none⟩) 1 1] 26)) (.slice (some ⟨w7.heap.size + 1 + 1, 0, none⟩) 2 2) [[0, 1], [2]] := by
    have e1 : (w7.alloc (.cells #[.int .i64 0, .int .i64 1] 3)).heap.size = w7.heap.size + 1 := by simp
    have e2 : ((w7.alloc (.cells #[.int .i64 0, .int .i64 1] 3)).alloc (.cells #[.int .i64 2] 3)).heap.size = w7.heap.size + 1 + 1 := by simp
    have h1 := ints_new1 (w7.alloc (.cells #[.int .i64 0, .int .i64 1] 3)) 2 3 (by omega)
    rw [e1] at h1
    have h := int_rows_new2 ((w7.alloc (.cells #[.int .i64 0, .int .i64 1] 3)).alloc (.cells #[.int .i64 2] 3)) 26 _ _ _ _ ((ints_new2 w7 0 1 3 (by omega) (by omega)).mono (below1 _ _)) h1
    rw [e2] at h
    exact h
  have hb3 := below3 w7 (.cells #[.int .i64 0, .int .i64 1] 3) (.cells #[.int .i64 2] 3) (.cells #[.slice (some ⟨w7.heap.size, 0, none⟩) 2 2, .slice (some ⟨w7.heap.size + 1, 0, none⟩) 1 1] 26)
  have hL1 := (Lists.rows hl7 (by simp) (by simp)).mono hb3
  have hb57 := bthen (bstep (bthen hb5 hb6) hb7) hb3
  refine (lists_same _ _ _ [[0, 1], [2]] hL1 hL2).mono ?_
  rintro e w8 ⟨rfl, hb8⟩
  have hb58 := bthen hb57 hb8
  have HX8 := Lib.hid hb58
  have z0 := (olds hb58 _ _ hpx).trans z0
  have z1 := (olds hb58 _ _ hpx).trans z1
  have z2 := (olds hb58 _ _ hpx).trans z2
  have hpx := Nat.lt_of_lt_of_le hpx hb58.size
  clear hb58 hb57 hb8 hL1 hL2 hb3 hb7 hl7 hb6 hb5 hc5 hz5 y0 y1 y2
  go_wp2_with fail
  refine (follows_call _ _ _ P0 [5] (-1) true (HPL2.out.mono (bthen BPX.out (bstep HX8.out (Below.refl _ _)))) (ints_new1 w8 2 3 (by omega)) (by simp) (by simp) fo0.1).mono ?_
  rintro e w9 ⟨rfl, hb9⟩
  have HX9 := Lib.hid (bstep HX8.out hb9)
  have z0 := (olds (bin hb9) _ _ hpx).trans z0
  have z1 := (olds (bin hb9) _ _ hpx).trans z1
  have z2 := (olds (bin hb9) _ _ hpx).trans z2
  have hpx := Nat.lt_of_lt_of_le hpx (bin hb9).size
  clear hb9
  go_wp2_with fail
  refine (follows_call _ _ _ P0 [4] 1 true (HPL2.out.mono (bthen BPX.out (bstep HX9.out (Below.refl _ _)))) (ints_new1 w9 1 3 (by omega)) (by simp) (by simp) fo0.2.1).mono ?_
  rintro e w10 ⟨rfl, hb10⟩
  have HX10 := Lib.hid (bstep HX9.out hb10)
  have z0 := (olds (bin hb10) _ _ hpx).trans z0
  have z1 := (olds (bin hb10) _ _ hpx).trans z1
  have z2 := (olds (bin hb10) _ _ hpx).trans z2
  have hpx := Nat.lt_of_lt_of_le hpx (bin hb10).size
  clear hb10
  go_wp2_with fail
  refine (follows_call _ _ _ P0 [4, 6] (-1) true (HPL2.out.mono (bthen BPX.out (bstep HX10.out (Below.refl _ _)))) (ints_new2 w10 1 3 3 (by omega) (by omega)) (by simp) (by simp) fo0.2.2.1).mono ?_
  rintro e w11 ⟨rfl, hb11⟩
  have HX11 := Lib.hid (bstep HX10.out hb11)
  have z0 := (olds (bin hb11) _ _ hpx).trans z0
  have z1 := (olds (bin hb11) _ _ hpx).trans z1
  have z2 := (olds (bin hb11) _ _ hpx).trans z2
  have hpx := Nat.lt_of_lt_of_le hpx (bin hb11).size
  clear hb11
  go_wp2_with fail
  refine (follows_call _ _ _ P0 [7] (-1) false (HPL2.out.mono (bthen BPX.out (bstep HX11.out (Below.refl _ _)))) (ints_new1 w11 5 3 (by omega)) (by simp) (by simp) fo0.2.2.2).mono ?_
  rintro e w12 ⟨rfl, hb12⟩
  have HX12 := Lib.hid (bstep HX11.out hb12)
  have z0 := (olds (bin hb12) _ _ hpx).trans z0
  have z1 := (olds (bin hb12) _ _ hpx).trans z1
  have z2 := (olds (bin hb12) _ _ hpx).trans z2
  have hpx := Nat.lt_of_lt_of_le hpx (bin hb12).size
  clear hb12
  go_wp2_with fail
  have hR12 : OwnRows w12 w.heap.size (.slice (some ⟨T, 0, none⟩) 3 3) (zN 0) := (HR.out.below B0X.out).below HX12.out
  have hbl12 := bthen BX.out HX12.out
  have HR12 := Lib.hid hR12; have HBL12 := Lib.hid hbl12
  clear hR12 hbl12 z0 z1 z2 hpx
  obtain ⟨i0, hi, hz0, hz1, hz2⟩ := info_parts info_value
  have Hi := Lib.hid hi; have Hz0 := Lib.hid hz0; have Hz1 := Lib.hid hz1; have Hz2 := Lib.hid hz2
  clear hi hz0 hz1 hz2
  go_loopw [7, 92] (fun _ i wr => ∃ k : Nat, k ≤ 3 ∧ i = .int .i64 k ∧ OwnRows wr w.heap.size (.slice (some ⟨T, 0, none⟩) 3 3) (zN k) ∧ Below w.heap.size w wr) (fun _ i _ => 3 - (intOf i).toNat)
  case atStart => exact ⟨0, by omega, rfl, HR12.out, HBL12.out⟩
  case round =>
    obtain ⟨k, hk, rfl, hrows, hbel⟩ := hrel
    have HBL := Lib.hid hbel; have HRW := Lib.hid hrows
    by_cases hlt : k < 3
    · have q1 : (k:Int) < 3 := by omega
      have q0 : 0 ≤ (k:Int) := by omega
      obtain ⟨us, u1, u2, u3, u4⟩ := hrows
      rw [zN_len] at u1 u2
      obtain ⟨g1, g2, g3⟩ := zN_get hlt
      have hu : us[k]? = some us[k] := by simp
      obtain ⟨u, hue⟩ : ∃ u, u = us[k] := ⟨_, rfl⟩
      rw [← hue] at hu
      have ho := u3 k u _ hu g1
      rw [g2] at ho
      obtain ⟨ua, uc, rfl⟩ := own_slice ho
      have ck : wr.cell? ⟨T, k, none⟩ = some (.slice ua 2 uc) := by rw [u1.cellAt k (by omega)]; exact hu
      have fk := u1.frozenAt k
      have tl := (u1.lt T rfl).2
      have U1 := Lib.hid u1; have U2 := Lib.hid u2; have U3 := Lib.hid u3; have U4 := Lib.hid u4; have HU := Lib.hid hu; have HO := Lib.hid ho; have G3 := Lib.hid g3
      have dn8 : dn 8 = 7 := rfl
      have hut : some T ≠ Value.ownBlock (.slice ua 2 uc) := fun e => by have := own_apart ho u1 (by decide); rw [← e] at this; simp [Value.ownBlock] at this
      clear u1 u2 u3 u4 hu ho hue hbel g1 g3
      go_wp2
      go_region_law (first | (refine step_append_lies _ (by rfl) _ _ _ (by rfl) w.heap.size 47 i0 _ 7 96 und_vals Hi.out Hz0.out Hz1.out Hz2.out rfl (by decide) _ 2 _ (by rfl) ((own_below HO.out (bdrew hb1)).alloc _) ⟨w1.heap.size, 0, none⟩ 1 1 (cv (8, none, 0)) (by rfl) rfl (One.cells (heap_alloc_new w1 _)) (cvs_one' (8, none, 0)) (by decide) (by unfold maxLen; omega) (by omega) (by have := (bthen HBL.out (bdrew hb1)).size; simp; omega) (w1.heap.size + 1) (by simp) ?_; intro g cap w9 hown hgr hat hgl; have e9 : w9.cell? ⟨T, k, none⟩ = some (.slice ua 2 uc) := World.grownBy.cell hgr ((olds (below1 w1 _) _ _ (Nat.lt_of_lt_of_le tl (bdrew hb1).size)).trans ((olds (bdrew hb1) _ _ tl).trans ck)) hut; have f9 : w9.frozen? ⟨T, k, none⟩ = false := (World.frozen?_of_block (hgr.block T (Nat.lt_of_lt_of_le tl (Nat.le_trans (bdrew hb1).size (below1 w1 _).size)) hut)).trans ((oldf (below1 w1 _) _ _ (Nat.lt_of_lt_of_le tl (bdrew hb1).size)).trans ((oldf (bdrew hb1) _ _ tl).trans fk))) | (go_simp; go_at_call 33; refine (n7 _).mono ?_; rintro e w1 ⟨rfl, hb1⟩; have e1 : w1.cell? ⟨T, k, none⟩ = some (.slice ua 2 uc) := (olds (bdrew hb1) _ _ tl).trans ck; have t1 : T < w1.heap.size := Nat.lt_of_lt_of_le tl (bdrew hb1).size; have t1n : T ≠ w1.heap.size := Nat.ne_of_lt t1; have e2 : ∀ o, (w1.alloc o).cell? ⟨T, k, none⟩ = some (.slice ua 2 uc) := fun o => (olds (below1 w1 o) _ _ t1).trans e1; dsimp only))
      all_goals
        go_wp2
        have Bd := (bdrew hb1).trans ((below1 w1 (.cells #[.int .i64 (kd 8), .string (st 8), .int .i64 (dn 8), .int .i64 0, .int .i64 (nn 8), .slice none 0 0, .slice none 0 0] 47)).mono (bdrew hb1).size)
        have hz3 : (zrow k ++ [(8, none, 0)]).length = 3 := by simp [g2]
        have hput := OwnRows.put (w := w1.alloc (.cells #[.int .i64 (kd 8), .string (st 8), .int .i64 (dn 8), .int .i64 0, .int .i64 (nn 8), .slice none 0 0, .slice none 0 0] 47)) (w1 := w9) (B := w.heap.size) (k := k) (v := .slice (some ⟨T, 0, none⟩) 3 3) (u' := .slice (some ⟨g, 0, none⟩) 3 cap) (us := us) (zss := zN k) (zs := zrow k ++ [(8, none, 0)])
          (by rw [zN_len]; exact own_below U1.out Bd) (by rw [zN_len]; exact U2.out) (fun j x zs hx hz => own_below (U3.out j x zs hx hz) Bd) U4.out HU.out hgr (by rw [hz3, cvs_snoc]; exact hown) (by
            rcases hat with h | h
            · exact .inl h.symm
            · right; intro g' hg'; simp [Value.ownBlock] at hg'; simp; omega) (g := T) (cap := 3) (by rw [zN_len])
        rw [G3.out] at hput
        have hbw := HBL.out.trans (Bd.mono HBL.out.size)
        exact ⟨⟨k + 1, by omega, by go_num, hput, (hbw.grown hgr (by have := hbw.size; omega) (fun b hb => (HO.out.lt b hb).1)).setCell ((U1.out.lt T rfl).1) _⟩, by simp [intOf]; omega⟩
    · obtain rfl : k = 3 := by omega
      have hva : ValRows wr (.slice (some ⟨T, 0, none⟩) 3 3) A1 := hrows.rows (zss := zN 3) (by simp [zN]) (by decide)
      have HVA := Lib.hid hva; have HGW := Lib.hid (HG.out.mono hbel)
      clear hrows hva hbel
      go_wp2_with (first | (go_at_call 21; refine (Useful_call _ _ A1 HVA.out HGW.out (by decide)).mono ?_; rintro e w13 ⟨v13, rfl, ho13, hb13⟩; rw [us1] at ho13) | (go_at_call 20; refine (ints13 _ _ _ [0, 1] [0, 1] ((own_ints (xs := [0, 1]) (own_below ho13 (below1 _ _)) (by simp) (by simp))) (ints_new2 w13 0 1 3 (by omega) (by omega))).mono ?_; rintro e w14 ⟨rfl, hb14⟩))
      go_ret
      exact ⟨rfl, bthen HBL.out (bstep hb13 hb14)⟩
end Go.Proofs.YtoiemkifgdnhaaaGreatDoor
namespace Go.Proofs.YtoiemkifgdnhaaaGreatDoor
open Go Go.RowKit
theorem tmod_neg (n m : Int) (h : n ≤ 0) : n.tmod m = -((-n) % m) := by
  rw [← Int.tmod_eq_emod_of_nonneg (a := -n) (by omega), Int.neg_tmod, Int.neg_neg]
theorem tmod_mod (n m : Int) (hm : 0 < m) : (n.tmod m + m) % m = n % m := by
  rcases Int.le_total 0 n with h | h
  · rw [Int.tmod_eq_emod_of_nonneg h, Int.add_emod_right, Int.emod_emod]
  · rw [tmod_neg n m h]
    have e2 : -(-n % m) + m = n + m * ((-n) / m) + m := by have := Int.mul_ediv_add_emod (-n) m; omega
    rw [e2, Int.add_emod_right, Int.add_mul_emod_self_left]
theorem tmod_bounds (n m : Int) (hm : 0 < m) : -m < n.tmod m ∧ n.tmod m < m := by
  rcases Int.le_total 0 n with h | h
  · rw [Int.tmod_eq_emod_of_nonneg h]
    have h1 := Int.emod_nonneg n (Int.ne_of_gt hm); have h2 := Int.emod_lt_of_pos n hm; omega
  · rw [tmod_neg n m h]
    have h1 := Int.emod_nonneg (-n) (Int.ne_of_gt hm); have h2 := Int.emod_lt_of_pos (-n) hm; omega
theorem mod_call (n m : Int) (w : World) (hm : 0 < m) (hm2 : m ≤ 1000000) : Calls Tryz.prog 57 #[.int .i64 n, .int .i64 m] w fun e w' => e = .returned (.int .i64 (n % m)) ∧ w = w' := by
  have h0 : (m == 0) = false := by rw [beq_eq_false_iff_ne]; omega
  obtain ⟨h2, h1⟩ := tmod_bounds n m hm
  have h3 : IntKind.i64.wrap (n.tmod m) = n.tmod m := by rw [IntKind.wrap_i64]; omega
  have h4 : IntKind.i64.wrap (n.tmod m + m) = n.tmod m + m := by rw [IntKind.wrap_i64]; omega
  go_enter Tryz.func57, Tryz.ntmps57
  go_wp2
  go_ret
  exact ⟨ret_int (tmod_mod n m hm), rfl⟩
/-- The value of a number. -/
def valOf (n : Int) : Nat := match (n % 6).toNat with | 0 => 1 | 1 => 4 | 2 => 5 | 3 => 2 | 4 => 3 | _ => 9
theorem valOf_le (n : Int) : valOf n ≤ 9 := by unfold valOf; split <;> omega
theorem va_lit {x : Nat} {k d i : Int} {s : ByteArray} (h1 : kd x = k) (h2 : st x = s) (h3 : dn x = d) (h4 : nn x = i) : va x none 0 = .agg #[.int .i64 k, .string s, .int .i64 d, .int .i64 0, .int .i64 i, .slice none 0 0, .slice none 0 0] := by rw [va, h1, h2, h3, h4]
set_option maxHeartbeats 400000 in
theorem Value_call (n : Int) (w : World) : Calls Tryz.prog 24 #[.int .i64 n] w fun e w' => e = .returned (va (valOf n) none 0) ∧ Below w.heap.size w w' := by
  have h1 := Int.emod_nonneg n (show (6 : Int) ≠ 0 by omega)
  have h2 := Int.emod_lt_of_pos n (show (0 : Int) < 6 by omega)
  have hc : n % 6 = 0 ∨ n % 6 = 1 ∨ n % 6 = 2 ∨ n % 6 = 3 ∨ n % 6 = 4 ∨ n % 6 = 5 := by omega
  clear h1 h2
  rcases hc with h | h | h | h | h | h
  · rw [show valOf n = 1 by rw [valOf, h]; rfl, va_lit (x := 1) (k := 0) (d := 0) (i := 18) (s := ⟨#[]⟩) rfl rfl rfl rfl]
    have H := Lib.hid h; clear h
    go_enter Tryz.func24, Tryz.ntmps24
    go_wp2_with (go_at_call 57; refine (mod_call _ _ _ (by omega) (by omega)).mono ?_; rintro e w1 ⟨rfl, rfl⟩; rw [H.out])
    refine bodyPost_ret (v := .agg #[.int .i64 0, .string ⟨#[]⟩, .int .i64 0, .int .i64 0, .int .i64 18, .slice none 0 0, .slice none 0 0]) (by simp [results, Tryz.results24, go_sem]) rfl ⟨rfl, (by repeat (first | with_reducible exact Below.refl _ _ | with_reducible assumption | with_reducible refine Below.drew ?_ | with_reducible refine Below.alloc ?_ (by first | omega | (simp; done) | (simp; omega)) _ | with_reducible refine Below.setCell ?_ (by first | omega | (simp; done) | (simp; omega)) _))⟩
  · rw [show valOf n = 4 by rw [valOf, h]; rfl, va_lit (x := 4) (k := 2) (d := 1) (i := 0) (s := ⟨#[]⟩) rfl rfl rfl rfl]
    have H := Lib.hid h; clear h
    go_enter Tryz.func24, Tryz.ntmps24
    go_wp2_with (go_at_call 57; refine (mod_call _ _ _ (by omega) (by omega)).mono ?_; rintro e w1 ⟨rfl, rfl⟩; rw [H.out])
    refine bodyPost_ret (v := .agg #[.int .i64 2, .string ⟨#[]⟩, .int .i64 1, .int .i64 0, .int .i64 0, .slice none 0 0, .slice none 0 0]) (by simp [results, Tryz.results24, go_sem]) rfl ⟨rfl, (by repeat (first | with_reducible exact Below.refl _ _ | with_reducible assumption | with_reducible refine Below.drew ?_ | with_reducible refine Below.alloc ?_ (by first | omega | (simp; done) | (simp; omega)) _ | with_reducible refine Below.setCell ?_ (by first | omega | (simp; done) | (simp; omega)) _))⟩
  · rw [show valOf n = 5 by rw [valOf, h]; rfl, va_lit (x := 5) (k := 2) (d := 2) (i := 0) (s := ⟨#[]⟩) rfl rfl rfl rfl]
    have H := Lib.hid h; clear h
    go_enter Tryz.func24, Tryz.ntmps24
    go_wp2_with (go_at_call 57; refine (mod_call _ _ _ (by omega) (by omega)).mono ?_; rintro e w1 ⟨rfl, rfl⟩; rw [H.out])
    refine bodyPost_ret (v := .agg #[.int .i64 2, .string ⟨#[]⟩, .int .i64 2, .int .i64 0, .int .i64 0, .slice none 0 0, .slice none 0 0]) (by simp [results, Tryz.results24, go_sem]) rfl ⟨rfl, (by repeat (first | with_reducible exact Below.refl _ _ | with_reducible assumption | with_reducible refine Below.drew ?_ | with_reducible refine Below.alloc ?_ (by first | omega | (simp; done) | (simp; omega)) _ | with_reducible refine Below.setCell ?_ (by first | omega | (simp; done) | (simp; omega)) _))⟩
  · rw [show valOf n = 2 by rw [valOf, h]; rfl, va_lit (x := 2) (k := 1) (d := 0) (i := 0) (s := ⟨#[97]⟩) rfl rfl rfl rfl]
    have H := Lib.hid h; clear h
    go_enter Tryz.func24, Tryz.ntmps24
    go_wp2_with (go_at_call 57; refine (mod_call _ _ _ (by omega) (by omega)).mono ?_; rintro e w1 ⟨rfl, rfl⟩; rw [H.out])
    refine bodyPost_ret (v := .agg #[.int .i64 1, .string ⟨#[97]⟩, .int .i64 0, .int .i64 0, .int .i64 0, .slice none 0 0, .slice none 0 0]) (by simp [results, Tryz.results24, go_sem]) rfl ⟨rfl, (by repeat (first | with_reducible exact Below.refl _ _ | with_reducible assumption | with_reducible refine Below.drew ?_ | with_reducible refine Below.alloc ?_ (by first | omega | (simp; done) | (simp; omega)) _ | with_reducible refine Below.setCell ?_ (by first | omega | (simp; done) | (simp; omega)) _))⟩
  · rw [show valOf n = 3 by rw [valOf, h]; rfl, va_lit (x := 3) (k := 1) (d := 0) (i := 0) (s := ⟨#[98]⟩) rfl rfl rfl rfl]
    have H := Lib.hid h; clear h
    go_enter Tryz.func24, Tryz.ntmps24
    go_wp2_with (go_at_call 57; refine (mod_call _ _ _ (by omega) (by omega)).mono ?_; rintro e w1 ⟨rfl, rfl⟩; rw [H.out])
    refine bodyPost_ret (v := .agg #[.int .i64 1, .string ⟨#[98]⟩, .int .i64 0, .int .i64 0, .int .i64 0, .slice none 0 0, .slice none 0 0]) (by simp [results, Tryz.results24, go_sem]) rfl ⟨rfl, (by repeat (first | with_reducible exact Below.refl _ _ | with_reducible assumption | with_reducible refine Below.drew ?_ | with_reducible refine Below.alloc ?_ (by first | omega | (simp; done) | (simp; omega)) _ | with_reducible refine Below.setCell ?_ (by first | omega | (simp; done) | (simp; omega)) _))⟩
  · rw [show valOf n = 9 by rw [valOf, h]; rfl, va_lit (x := 9) (k := 4) (d := 0) (i := 1) (s := ⟨#[]⟩) rfl rfl rfl rfl]
    have H := Lib.hid h; clear h
    go_enter Tryz.func24, Tryz.ntmps24
    go_wp2_with (go_at_call 57; refine (mod_call _ _ _ (by omega) (by omega)).mono ?_; rintro e w1 ⟨rfl, rfl⟩; rw [H.out])
    refine bodyPost_ret (v := .agg #[.int .i64 4, .string ⟨#[]⟩, .int .i64 0, .int .i64 0, .int .i64 1, .slice none 0 0, .slice none 0 0]) (by simp [results, Tryz.results24, go_sem]) rfl ⟨rfl, (by repeat (first | with_reducible exact Below.refl _ _ | with_reducible assumption | with_reducible refine Below.drew ?_ | with_reducible refine Below.alloc ?_ (by first | omega | (simp; done) | (simp; omega)) _ | with_reducible refine Below.setCell ?_ (by first | omega | (simp; done) | (simp; omega)) _))⟩
end Go.Proofs.YtoiemkifgdnhaaaGreatDoor
namespace Go.Proofs.YtoiemkifgdnhaaaGreatDoor
open Go Go.RowKit
def mval (L : List (List Int)) (k j : Nat) : Nat := valOf ((L.getD k []).getD j 0)
def mrow (L : List (List Int)) (k : Nat) : List Nat := (List.range (min 10 (L.headD []).length)).map (mval L k)
def madeS (L : List (List Int)) : List (List Nat) := (List.range (min 12 L.length)).map (mrow L)
/-- A row is put behind. -/
theorem OwnRows.push {w w2 : World} {B : Nat} {v r v' : Value} {us : List Value} {zss : List (List ZV)} {zs : List ZV} (h1 : w.ownsRow B 42 1 v zss.length us) (h2 : us.length = zss.length)
    (h3 : ∀ (k : Nat) (u : Value) (zs : List ZV), us[k]? = some u → zss[k]? = some zs → w.ownsRow B 47 7 u zs.length (cvs zs)) (h4 : Apart us)
    (hr : w.ownsRow B 47 7 r zs.length (cvs zs)) (hfr : ∀ (k : Nat) (u : Value) (g : Nat), us[k]? = some u → u.ownBlock = some g → r.ownBlock = some g → False)
    (hg : w.grownBy w2 v.ownBlock) (hown : w2.ownsRow B 42 1 v' (zss.length + 1) (us ++ [r])) : OwnRows w2 B v' (zss ++ [zs]) := by
  refine ⟨us ++ [r], by simpa using hown, by simp [h2], fun k u ys hu hy => ?_, fun i j x x' b hij hx hx' hb hb' => ?_⟩
  · by_cases hk : k < us.length
    · rw [List.getElem?_append_left hk] at hu; rw [List.getElem?_append_left (by omega)] at hy
      exact (h3 k u ys hu hy).kept hg (own_apart (h3 k u ys hu hy) h1 (by decide))
    · rw [List.getElem?_append_right (by omega)] at hu; rw [List.getElem?_append_right (by omega)] at hy
      rw [← h2] at hy
      rcases hn : k - us.length with _ | n
      · rw [hn] at hu hy; cases hu; cases hy
        exact hr.kept hg (own_apart hr h1 (by decide))
      · rw [hn] at hu; simp at hu
  · by_cases hi : i < us.length
    · rw [List.getElem?_append_left hi] at hx
      by_cases hj : j < us.length
      · rw [List.getElem?_append_left hj] at hx'
        exact h4 i j x x' b hij hx hx' hb hb'
      · rw [List.getElem?_append_right (by omega)] at hx'
        rcases hn : j - us.length with _ | n
        · rw [hn] at hx'; cases hx'; exact hfr i x b hx hb hb'
        · rw [hn] at hx'; simp at hx'
    · rw [List.getElem?_append_right (by omega)] at hx
      rcases hn : i - us.length with _ | n
      · rw [hn] at hx; cases hx
        by_cases hj : j < us.length
        · rw [List.getElem?_append_left hj] at hx'; exact hfr j x' b hx' hb' hb
        · rw [List.getElem?_append_right (by omega)] at hx'
          rcases hm : j - us.length with _ | m
          · omega
          · rw [hm] at hx'; simp at hx'
      · rw [hn] at hx; simp at hx
theorem zv_snoc (l : List Nat) (x : Nat) : zv (l ++ [x]) = zv l ++ [(x, none, 0)] := by simp [zv]
theorem zv_len (l : List Nat) : (zv l).length = l.length := by simp [zv]
def MadePost (L : List (List Int)) (w : World) (en : Ending) (w' : World) : Prop := ∃ o, en = .returned o ∧ OwnRows w' w.heap.size o ((madeS L).map zv) ∧ Below w.heap.size w w'
theorem head_getD (L : List (List Int)) : L.getD 0 [] = L.headD [] := by cases L <;> rfl
set_option maxRecDepth 100000 in
set_option maxHeartbeats 1000000 in
theorem Made_call (w : World) (v : Value) (L : List (List Int)) (hv : IntRows w v L) : Calls Tryz.prog 11 #[v] w (MadePost L w) := by
  have HV := Lib.hid hv
  obtain ⟨ao, ac, rfl, hv1⟩ := hv.1.open
  have hv2 := hv.2
  obtain ⟨i0, hi, hz0, hz1, hz2⟩ := info_parts info_value
  have Hi := Lib.hid hi; have Hz0 := Lib.hid hz0; have Hz1 := Lib.hid hz1; have Hz2 := Lib.hid hz2
  obtain ⟨j0, ji, jz0, jz1, jz2⟩ := info_parts info_vals
  have Ji := Lib.hid ji; have Jz0 := Lib.hid jz0; have Jz1 := Lib.hid jz1; have Jz2 := Lib.hid jz2
  obtain ⟨M, hM⟩ : ∃ M, M = min 10 (L.headD []).length := ⟨_, rfl⟩
  obtain ⟨hl, hhl⟩ : ∃ hl, hl = (L.headD []).length := ⟨_, rfl⟩
  have hMl : M = min 10 hl := by rw [hM, hhl]
  have HM := Lib.hid hM; have HHL := Lib.hid hhl; have HML := Lib.hid hMl
  clear hv hi hz0 hz1 hz2 ji jz0 jz1 jz2 hM hhl hMl
  go_enter Tryz.func11, Tryz.ntmps11
  go_wp2
  go_loopw [3, 4, 5, 6, 7] (fun out k _ _ _ wr => ∃ n : Nat, n ≤ min 12 L.length ∧ k = .int .i64 n ∧ OwnRows wr w.heap.size out (((List.range n).map (mrow L)).map zv) ∧ Below w.heap.size w wr) (fun _ k _ _ _ _ => min 12 L.length - (intOf k).toNat)
  case atStart => exact ⟨0, by omega, rfl, ⟨[], World.ownsRow_nil _ _ _ _, rfl, by simp, fun j k u u' g _ h => by simp at h⟩, Below.refl _ _⟩
  case round =>
    obtain ⟨n, hn, rfl, hrows, hbel⟩ := hrel
    have HBL := Lib.hid hbel; have HRW := Lib.hid hrows
    by_cases hlt : n < min 12 L.length
    · have q1 : (n:Int) < L.length := by omega
      have q2 : (n:Int) < 12 := by omega
      have q0 : 0 ≤ (n:Int) := by omega
      have q3 : (0:Int) < L.length := by omega
      have q4 : 0 < L.length := by omega
      clear hbel hrows
      go_wp2
      go_loopw [5, 6, 7] (fun row j _ wz => ∃ i : Nat, i ≤ M ∧ j = .int .i64 i ∧ wz.ownsRow w.heap.size 47 7 row i (cvs (zv ((List.range i).map (mval L n)))) ∧ (∀ g, row.ownBlock = some g → wr.heap.size ≤ g) ∧ Below wr.heap.size wr wz) (fun _ j _ _ => M - (intOf j).toNat)
      case atStart => exact ⟨0, by omega, rfl, World.ownsRow_nil _ _ _ _, by simp [Value.ownBlock], Below.refl _ _⟩
      case round =>
        obtain ⟨i, hi, rfl, ho, hfr, hbz⟩ := hrel
        have HO := Lib.hid ho; have HFR := Lib.hid hfr; have HBZ := Lib.hid hbz
        obtain ⟨ra, rc, rfl⟩ := own_slice ho
        have hvl := HV.out.mono (HBL.out.trans (hbz.mono HBL.out.size))
        obtain ⟨b1, o1, rfl, g1, ha, hc, p0, p1⟩ := hvl.1.at q4
        obtain ⟨b2, o2, hbo, g2, ka, kc, r0, r1⟩ := hvl.1.at (show n < L.length by omega)
        simp only [Option.some.injEq, Addr.mk.injEq, and_true] at hbo
        obtain ⟨rfl, rfl⟩ := hbo
        rw [head_getD] at p0 p1
        rw [← HHL.out] at p0
        obtain ⟨R, hR⟩ : ∃ R, R = L.getD n [] := ⟨_, rfl⟩
        rw [← hR] at r0 r1
        have HRR := Lib.hid hR
        have hML := HML.out
        simp only [Nat.zero_mul, Nat.add_zero, Nat.mul_one] at p0 r0
        have hml : hl * 8 ≤ 140737488355328 := by rw [HHL.out]; exact p1.2.1
        have hll : R.length * 8 ≤ 140737488355328 := r1.2.1
        have HR1 := Lib.hid r1
        clear ho hfr hbz hvl p1 r1 hR
        by_cases hil : i < M
        · have s1 : (i:Int) < hl := by omega
          have s2 : (i:Int) < 10 := by omega
          have s0 : 0 ≤ (i:Int) := by omega
          by_cases hin : i < R.length
          · have t1 : (i:Int) < R.length := by omega
            obtain ⟨b3, o3, rfl, g3, u0⟩ := HR1.out.1.at hin
            simp only [Nat.mul_one] at u0
            obtain ⟨x, hx⟩ : ∃ x, x = R.getD i 0 := ⟨_, rfl⟩
            rw [← hx] at u0
            have HX := Lib.hid hx
            clear hx hML
            go_wp2_with (first | (go_at_call 24; refine (Value_call x _).mono ?_; rintro e w1 ⟨rfl, hb1⟩) | (at_builtin; refine wpList_app rfl (.tmp 44) (.tmp 47) 42 rfl w.heap.size 47 i0 _ 7 96 und_vals Hi.out Hz0.out Hz1.out Hz2.out rfl (by decide) _ _ _ rfl ((own_below HO.out hb1).alloc _) ⟨w1.heap.size, 0, none⟩ 1 1 (cv (valOf x, none, 0)) rfl rfl (One.cells (heap_alloc_new w1 _)) (cvs_one' (valOf x, none, 0)) (by unfold maxLen; omega) (by omega) (by have := HBL.out.size; have := HBZ.out.size; have := hb1.size; simp; omega) ?_; intro v' w9 hown hgr hfr))
            have hbz1 := bthen HBZ.out hb1
            refine ⟨⟨i + 1, by omega, by go_num, ?_, ?_, (hbz1.alloc hbz1.size _).grown hgr (by have := hbz1.size; simp; omega) (fun g hg => HFR.out g hg)⟩, by simp [intOf]; omega⟩
            · rw [List.range_succ, List.map_append, List.map_cons, List.map_nil, zv_snoc, cvs_snoc, show mval L n i = valOf x from by unfold mval; rw [HX.out, HRR.out]]
              exact hown
            · intro g hg
              rcases hfr with h | h
              · exact HFR.out g (Eq.trans (Eq.symm h) hg)
              · have := h g hg; have := hbz1.size; simp at *; omega
          · have t1 : ¬ (i:Int) < R.length := by omega
            go_wp2_with (first | (go_at_call 24; refine (Value_call 0 _).mono ?_; rintro e w1 ⟨rfl, hb1⟩) | (at_builtin; refine wpList_app rfl (.tmp 44) (.tmp 47) 42 rfl w.heap.size 47 i0 _ 7 96 und_vals Hi.out Hz0.out Hz1.out Hz2.out rfl (by decide) _ _ _ rfl ((own_below HO.out hb1).alloc _) ⟨w1.heap.size, 0, none⟩ 1 1 (cv (valOf 0, none, 0)) rfl rfl (One.cells (heap_alloc_new w1 _)) (cvs_one' (valOf 0, none, 0)) (by unfold maxLen; omega) (by omega) (by have := HBL.out.size; have := HBZ.out.size; have := hb1.size; simp; omega) ?_; intro v' w9 hown hgr hfr))
            have hbz1 := bthen HBZ.out hb1
            refine ⟨⟨i + 1, by omega, by go_num, ?_, ?_, (hbz1.alloc hbz1.size _).grown hgr (by have := hbz1.size; simp; omega) (fun g hg => HFR.out g hg)⟩, by simp [intOf]; omega⟩
            · rw [List.range_succ, List.map_append, List.map_cons, List.map_nil, zv_snoc, cvs_snoc, show mval L n i = valOf 0 from by unfold mval; rw [← HRR.out, List.getD_eq_getElem?_getD, List.getElem?_eq_none (by omega)]; rfl]
              exact hown
            · intro g hg
              rcases hfr with h | h
              · exact HFR.out g (Eq.trans (Eq.symm h) hg)
              · have := h g hg; have := hbz1.size; simp at *; omega
        · have hie : i = M := by omega
          have s1 : ¬ ((i:Int) < hl ∧ (i:Int) < 10) := by omega
          obtain ⟨us, u1, u2, u3, u4⟩ := HRW.out
          have U1 := Lib.hid u1; have U2 := Lib.hid u2; have U3 := Lib.hid u3; have U4 := Lib.hid u4
          have hlen : (((List.range n).map (mrow L)).map zv).length = n := by simp
          rw [hlen] at u1
          have U1' := Lib.hid u1
          have HIE := Lib.hid hie
          clear u1 u2 u3 u4 hie
          by_cases hih : i < hl
          · have s2 : (i:Int) < hl := by omega
            have s3 : ¬ (i:Int) < 10 := by omega
            go_wp2_with (at_builtin; refine wpList_app rfl (.tmp 49) (.tmp 51) 24 rfl w.heap.size 42 j0 _ 1 24 und_valrows Ji.out Jz0.out Jz1.out Jz2.out rfl (by decide) _ _ _ rfl ((own_below U1'.out HBZ.out).alloc _) ⟨wr.heap.size, 0, none⟩ 1 1 [.slice ra i rc] rfl rfl (One.cells (heap_alloc_new wr _)) (by intro u hu; simp at hu; subst hu; rfl) (by unfold maxLen; omega) (by omega) (by have := HBL.out.size; have := HBZ.out.size; simp; omega) ?_; intro v' w9 hown hgr hfr)
            have hrow : (List.range i).map (mval L n) = mrow L n := by rw [HIE.out, HM.out]; rfl
            have hpush := OwnRows.push (w := wr.alloc (.cells #[.slice ra i rc] 42)) (w2 := w9) (B := w.heap.size) (r := .slice ra i rc) (us := us) (zs := zv ((List.range i).map (mval L n))) (own_below (own_below U1.out HBZ.out) (below1 _ _)) U2.out (fun j x zs hx hz => own_below (own_below (U3.out j x zs hx hz) HBZ.out) (below1 _ _)) U4.out
              (by rw [zv_len, List.length_map, List.length_range]; exact own_below HO.out (below1 _ _)) (fun j x g hx hg hgr => by
                have hj := (List.getElem?_eq_some_iff.1 hx).1
                have hl2 := U2.out
                have h1 := ((U3.out j x ((((List.range n).map (mrow L)).map zv)[j]'(by omega)) hx (List.getElem?_eq_getElem (by omega))).lt g hg).2
                have h2 := HFR.out g hgr
                omega) hgr (by rw [hlen]; exact hown)
            rw [hrow] at hpush
            have hbz := HBL.out.trans (HBZ.out.mono HBL.out.size)
            refine ⟨⟨n + 1, by omega, by go_num, ?_, (hbz.alloc hbz.size _).grown hgr (by have := hbz.size; simp; omega) (fun g hg => (U1'.out.lt g hg).1)⟩, by simp [intOf]; omega⟩
            rw [List.range_succ, List.map_append, List.map_append]
            exact hpush
          · have s2 : ¬ (i:Int) < hl := by omega
            go_wp2_with (at_builtin; refine wpList_app rfl (.tmp 49) (.tmp 51) 24 rfl w.heap.size 42 j0 _ 1 24 und_valrows Ji.out Jz0.out Jz1.out Jz2.out rfl (by decide) _ _ _ rfl ((own_below U1'.out HBZ.out).alloc _) ⟨wr.heap.size, 0, none⟩ 1 1 [.slice ra i rc] rfl rfl (One.cells (heap_alloc_new wr _)) (by intro u hu; simp at hu; subst hu; rfl) (by unfold maxLen; omega) (by omega) (by have := HBL.out.size; have := HBZ.out.size; simp; omega) ?_; intro v' w9 hown hgr hfr)
            have hrow : (List.range i).map (mval L n) = mrow L n := by rw [HIE.out, HM.out]; rfl
            have hpush := OwnRows.push (w := wr.alloc (.cells #[.slice ra i rc] 42)) (w2 := w9) (B := w.heap.size) (r := .slice ra i rc) (us := us) (zs := zv ((List.range i).map (mval L n))) (own_below (own_below U1.out HBZ.out) (below1 _ _)) U2.out (fun j x zs hx hz => own_below (own_below (U3.out j x zs hx hz) HBZ.out) (below1 _ _)) U4.out
              (by rw [zv_len, List.length_map, List.length_range]; exact own_below HO.out (below1 _ _)) (fun j x g hx hg hgr => by
                have hj := (List.getElem?_eq_some_iff.1 hx).1
                have hl2 := U2.out
                have h1 := ((U3.out j x ((((List.range n).map (mrow L)).map zv)[j]'(by omega)) hx (List.getElem?_eq_getElem (by omega))).lt g hg).2
                have h2 := HFR.out g hgr
                omega) hgr (by rw [hlen]; exact hown)
            rw [hrow] at hpush
            have hbz := HBL.out.trans (HBZ.out.mono HBL.out.size)
            refine ⟨⟨n + 1, by omega, by go_num, ?_, (hbz.alloc hbz.size _).grown hgr (by have := hbz.size; simp; omega) (fun g hg => (U1'.out.lt g hg).1)⟩, by simp [intOf]; omega⟩
            rw [List.range_succ, List.map_append, List.map_append]
            exact hpush
    · obtain rfl : n = min 12 L.length := by omega
      have q1 : ¬ (((min 12 L.length : Nat) : Int) < L.length ∧ ((min 12 L.length : Nat) : Int) < 12) := by omega
      have HRW2 := Lib.hid hrows
      obtain ⟨N, hN⟩ : ∃ N, N = min 12 L.length := ⟨_, rfl⟩
      rw [← hN] at q1
      rw [← hN]
      have HN := Lib.hid hN
      clear hbel hrows
      by_cases hNl : (N : Int) < L.length
      · have q2 : ¬ (N : Int) < 12 := by omega
        clear hN hlt
        go_wp2
        go_ret
        exact ⟨_, rfl, HRW2.out, HBL.out⟩
      · clear hN hlt
        go_wp2
        go_ret
        exact ⟨_, rfl, HRW2.out, HBL.out⟩
end Go.Proofs.YtoiemkifgdnhaaaGreatDoor
namespace Go.Proofs.YtoiemkifgdnhaaaGreatDoor
open Go Go.RowKit
theorem foldl_max_le {gs : List (Nat × Nat)} {d : Nat → Nat} {n : Nat} : ∀ a, a ≤ n → (∀ g ∈ gs, d g.2 ≤ n) → gs.foldl (fun a g => max a (d g.2)) a ≤ n := by
  induction gs with
  | nil => intro a ha _; exact ha
  | cons g gs ih => intro a ha h; exact ih _ (Nat.max_le.2 ⟨ha, h g (by simp)⟩) fun x hx => h x (by simp [hx])
theorem foldl_max_ge {gs : List (Nat × Nat)} {d : Nat → Nat} : ∀ a, a ≤ gs.foldl (fun a g => max a (d g.2)) a ∧ ∀ g ∈ gs, d g.2 ≤ gs.foldl (fun a g => max a (d g.2)) a := by
  induction gs with
  | nil => intro a; exact ⟨Nat.le_refl _, by simp⟩
  | cons g gs ih =>
    intro a
    rw [List.foldl_cons]
    obtain ⟨h1, h2⟩ := ih (max a (d g.2))
    refine ⟨by omega, fun x hx => ?_⟩
    rcases List.mem_cons.1 hx with rfl | hx
    · omega
    · exact h2 x hx
/-- The depth is less than the number of programs. -/
theorem dep_card (A : List (List Nat)) (m : Nat) : ∀ f s, (bitsOf s).length ≤ f → dep A m s ≤ (bitsOf s).length - 1 := by
  intro f
  induction f with
  | zero =>
    intro s hs
    by_cases hd : dep A m s = 0
    · omega
    · obtain ⟨_, _, _, h2⟩ := inp_spec hd
      have := divS_len A (inp A m s) s; omega
  | succ f ih =>
    intro s hs
    by_cases hd : dep A m s = 0
    · omega
    · obtain ⟨_, _, _, h2⟩ := inp_spec hd
      have hl := divS_len A (inp A m s) s
      rw [dep_one hd]
      have : (divS A (inp A m s) s).foldl (fun a g => max a (dep A m g.2)) 0 ≤ (bitsOf s).length - 2 := foldl_max_le 0 (by omega) fun g hg => by
        have h3 := card_lt hg h2
        have h4 := ih g.2 (by omega)
        omega
      omega
theorem nodup_sub {l : List Nat} : ∀ {l' : List Nat}, l.Nodup → (∀ x ∈ l, x ∈ l') → l.length ≤ l'.length := by
  induction l with
  | nil => intro l' _ _; simp
  | cons a l ih =>
    intro l' hn hs
    rw [List.nodup_cons] at hn
    have ha := hs a (by simp)
    have h2 := ih (l' := l'.erase a) hn.2 fun x hx => by
      have hne : x ≠ a := fun e => hn.1 (e ▸ hx)
      exact (List.mem_erase_of_ne hne).2 (hs x (by simp [hx]))
    rw [List.length_erase_of_mem ha] at h2
    have : 0 < l'.length := List.length_pos_of_mem ha
    simp only [List.length_cons]; omega
/-- A set is divided into no more groups than all programs. -/
theorem divS_most {A : List (List Nat)} {k s : Nat} (hr : rightS A = true) (hk : k < inputsS A) (hs : s < 2 ^ A.length) : (divS A k s).length ≤ mostS A (inputsS A) := by
  have h1 : (divS A k s).length = (gfold A k (bitsOf s)).1.length := by rw [divS_fst, List.length_map]
  have h2 := (most_ge A (inputsS A)).2 k hk
  rw [groups_all hr hk, gfold_len2] at h2
  rw [h1]
  refine Nat.le_trans (nodup_sub (nodup_of_sorted (gfold_law A k (bitsOf s)).sorted) fun v hv => ?_) h2
  obtain ⟨p, hp, e⟩ := ((gfold_law A k (bitsOf s)).vals v).1 hv
  exact ((gfold_law A k (List.range A.length)).vals v).2 ⟨p, by simpa using bits_lt_pow hs hp, e⟩
theorem sum_le_mul {α : Type} (f : α → Nat) (b : Nat) : ∀ l : List α, (∀ a ∈ l, f a ≤ b) → (l.map f).sum ≤ l.length * b
  | [], _ => by simp
  | a :: l, h => by
    have h1 := h a (by simp)
    have h2 := sum_le_mul f b l fun x hx => h x (by simp [hx])
    simp only [List.map_cons, List.sum_cons, List.length_cons, Nat.succ_mul]; omega
/-- So many kinds as questions can tell. -/
theorem kinds_pow {A : List (List Nat)} (hr : rightS A = true) (hok : Ok A (inputsS A)) : ∀ d s (ks : List Nat), dep A (inputsS A) s ≤ d → s < 2 ^ A.length → (∀ k ∈ ks, k ∈ bitsOf s) → ks.Pairwise (fun k p => sameRow A k p = false) → ks.length ≤ mostS A (inputsS A) ^ d := by
  intro d
  induction d with
  | zero =>
    intro s ks hd hs hk hp
    have ha := dep_zero hok hs (Nat.le_zero.1 hd)
    unfold alikeS at ha
    rw [List.all_eq_true] at ha
    match ks, hk, hp with
    | [], _, _ => simp
    | [_], _, _ => simp
    | a :: b :: l, hk, hp =>
      rw [List.pairwise_cons] at hp
      have h1 := ha a (hk a (by simp)); have h2 := ha b (hk b (by simp))
      have h3 := hp.1 b (by simp)
      unfold sameRow at h3
      simp only [beq_iff_eq] at h1 h2
      rw [h1, h2] at h3
      simp at h3
  | succ d ih =>
    intro s ks hd hs hk hp
    by_cases hz : dep A (inputsS A) s = 0
    · have h0 := ih s ks (by omega) hs hk hp
      have h1 := (most_ge A (inputsS A)).1
      exact Nat.le_trans h0 (Nat.pow_le_pow_right h1 (by omega))
    · obtain ⟨hi, _, _, h2⟩ := inp_spec hz
      have h1 := dep_one hz
      have hg := foldl_max_ge (gs := divS A (inp A (inputsS A) s) s) (d := dep A (inputsS A)) 0
      have L := gfold_law A (inp A (inputsS A) s) (bitsOf s)
      have hsum := sel_sum A (inp A (inputsS A) s) (nodup_of_sorted L.sorted) ks fun p hp => (L.vals _).2 ⟨p, hk p hp, rfl⟩
      rw [← hsum]
      have hb := sum_le_mul (fun v => (sel A (inp A (inputsS A) s) ks v).length) (mostS A (inputsS A) ^ d) (gfold A (inp A (inputsS A) s) (bitsOf s)).1 fun v hv => by
        have hm : (v, mask (pInts (sel A (inp A (inputsS A) s) (bitsOf s) v))) ∈ divS A (inp A (inputsS A) s) s := by
          rw [divS_eq]; exact List.mem_map.2 ⟨v, hv, rfl⟩
        refine ih _ _ ?_ (set_lt hs hm) (fun p hp => ?_) (hp.sublist List.filter_sublist)
        · have := hg.2 _ hm; omega
        · show p ∈ bitsOf (mask (pInts (sel A (inp A (inputsS A) s) (bitsOf s) v)))
          unfold sel; rw [bits_mask]
          obtain ⟨h1, h2⟩ := List.mem_filter.1 hp
          exact List.mem_filter.2 ⟨hk p h1, h2⟩
      have hl : (gfold A (inp A (inputsS A) s) (bitsOf s)).1.length ≤ mostS A (inputsS A) := by
        have := divS_most hr hi hs; rw [divS_fst, List.length_map]; exact this
      refine Nat.le_trans hb ?_
      rw [Nat.pow_succ, Nat.mul_comm]
      exact Nat.mul_le_mul_left _ hl
theorem climb_le {m t d : Nat} (hm : 1 ≤ m) (ht : t ≤ m ^ d) : ∀ f n, n ≤ d → climb m t f (m ^ n) n ≤ d := by
  intro f
  induction f with
  | zero => intro n hn; exact hn
  | succ f ih =>
    intro n hn
    rw [climb]
    split
    · rename_i h
      have hlt : n < d := by
        rcases Nat.lt_or_ge n d with h2 | h2
        · exact h2
        · have := Nat.pow_le_pow_right hm h2; omega
      have := ih (n + 1) hlt
      rwa [Nat.pow_succ] at this
    · exact hn
/-- The lower bound is one. -/
theorem lower_dep {A : List (List Nat)} (hr : rightS A = true) (hok : Ok A (inputsS A)) : lowerS A ≤ dep A (inputsS A) (fullS A) := by
  have hb : bitsOf (fullS A) = List.range A.length := bits_full hok.len
  have h := kinds_pow hr hok (dep A (inputsS A) (fullS A)) (fullS A) (kindsS A A.length) (Nat.le_refl _) (full_val hok.len).2 (fun k hk => by rw [hb]; simpa using (kinds_lt A A.length).1 k hk) (kinds_pair A A.length)
  have := climb_le (most_ge A (inputsS A)).1 h (kindsS A A.length).length 0 (Nat.zero_le _)
  simpa [lowerS] using this
theorem useful_dep {A : List (List Nat)} (hr : rightS A = true) (hok : Ok A (inputsS A)) : usefulS A (inputsS A) = [] ↔ dep A (inputsS A) (fullS A) = 0 := by
  have hb : bitsOf (fullS A) = List.range A.length := bits_full hok.len
  have hg : ∀ k, k < inputsS A → (groupsS A (upTo A.length) k).length = (divS A k (fullS A)).length := fun k hk => by
    rw [groups_all hr hk, gfold_len2, ← hb, divS_fst, List.length_map]
  unfold usefulS
  rw [List.filter_eq_nil_iff]
  constructor
  · intro h
    apply Classical.byContradiction
    intro hd
    obtain ⟨hi, _, _, h2⟩ := inp_spec hd
    have := h (inp A (inputsS A) (fullS A)) (by simpa using hi)
    rw [hg _ hi] at this
    simp at this; omega
  · intro hd k hk
    have hk' : k < inputsS A := by simpa using hk
    rw [hg k hk']
    simp only [decide_eq_true_eq]
    intro h2
    have ha : 0 < aft A (inputsS A) k (fullS A) := by unfold aft aftF; rw [if_neg (by omega)]; omega
    have := lst_pos (List.range (inputsS A)) (fun k => aft A (inputsS A) k (fullS A)) 0 (.inr ⟨k, hk, ha⟩)
    rw [← dep_eq, hd] at this; omega
theorem full_card {A : List (List Nat)} (h : A.length ≤ 12) : (bitsOf (fullS A)).length = A.length := by rw [show bitsOf (fullS A) = List.range A.length from bits_full h, List.length_range]
theorem made_right (L : List (List Int)) : rightS (madeS L) = true ∧ (madeS L).length = min 12 L.length ∧ inputsS (madeS L) ≤ 10 := by
  have hl : (madeS L).length = min 12 L.length := by simp [madeS]
  have hrow : ∀ l ∈ madeS L, l.length = min 10 (L.headD []).length ∧ ∀ x ∈ l, x ≤ 9 := by
    intro l hl
    simp only [madeS, List.mem_map] at hl
    obtain ⟨k, _, rfl⟩ := hl
    refine ⟨by simp [mrow], fun x hx => ?_⟩
    simp only [mrow, List.mem_map] at hx
    obtain ⟨j, _, rfl⟩ := hx
    exact valOf_le _
  have hin : madeS L ≠ [] → inputsS (madeS L) = min 10 (L.headD []).length := by
    intro hne
    unfold inputsS
    cases h : madeS L with
    | nil => exact absurd h hne
    | cons a l => rw [h] at hrow; exact (hrow a (by simp)).1
  refine ⟨?_, hl, ?_⟩
  · unfold rightS
    rw [List.all_eq_true]
    intro l hm
    obtain ⟨h1, h2⟩ := hrow l hm
    unfold rowB
    rw [h1, hin (List.ne_nil_of_mem hm)]
    simp only [beq_self_eq_true, Bool.true_and, Bool.not_eq_true', List.any_eq_false, decide_eq_true_eq]
    exact fun x hx => by have := h2 x hx; omega
  · by_cases h : madeS L = []
    · rw [h]; simp [inputsS]
    · rw [hin h]; omega
end Go.Proofs.YtoiemkifgdnhaaaGreatDoor
namespace Go.Proofs.YtoiemkifgdnhaaaGreatDoor
open Go Go.RowKit
theorem IntRows.take {w : World} {ao : Option Addr} {cap : Nat} {L : List (List Int)} {n : Nat} (h : IntRows w (.slice ao L.length cap) L) (hn : n ≤ L.length) : IntRows w (.slice ao n cap) (L.take n) := by
  obtain ⟨⟨a, c, e, h1, h2⟩, h3⟩ := h
  simp only [Value.slice.injEq, true_and] at e
  obtain ⟨rfl, rfl⟩ := e
  have hl : (L.take n).length = n := by simp; omega
  refine ⟨⟨ao, cap, by rw [hl], by rw [hl]; omega, fun hne => ?_⟩, by rw [hl]; omega⟩
  rw [hl] at hne
  obtain ⟨b, off, e, hb, hc⟩ := h2 (by omega)
  refine ⟨b, off, e, hb, fun k hk => ?_⟩
  rw [hl] at hk
  have e2 : (L.take n).getD k [] = L.getD k [] := by simp [List.getD_eq_getElem?_getD, List.getElem?_take, hk]
  show ∃ ra rc, w.cell? ⟨b, off + k * 1, none⟩ = some (.slice ra ((L.take n).getD k []).length rc) ∧ Ints w (.slice ra ((L.take n).getD k []).length rc) ((L.take n).getD k [])
  rw [e2]
  exact hc k (by omega)
/-- What a made answer gives a call. -/
theorem OwnRows.made {w : World} {B : Nat} {v : Value} {L : List (List Int)} (h : OwnRows w B v ((madeS L).map zv)) : ValRows w v (madeS L) := by
  have hr := (made_right L).1
  have hl := (made_right L).2.1
  have e : zvals ((madeS L).map zv) = madeS L := by
    unfold zvals
    rw [List.map_map]
    conv => rhs; rw [← List.map_id' (madeS L)]
    apply List.map_congr_left
    intro l _
    exact zv_map l
  rw [← e]
  refine h.rows (by simp; omega) fun zs hz => ?_
  obtain ⟨l, hl2, rfl⟩ := List.mem_map.1 hz
  have h1 := right_rows hr l hl2
  have h3 := (made_right L).2.2
  refine ⟨by rw [zv_len, h1.1]; omega, fun z hz => ?_⟩
  obtain ⟨x, hx, rfl⟩ := List.mem_map.1 hz
  have := h1.2 x hx
  show x ≤ 10; omega
def TruePost (w : World) (en : Ending) (w' : World) : Prop := en = .returned (.bool true) ∧ Below w.heap.size w w'
theorem make6 {A : List (List Nat)} (hr : rightS A = true) (h1 : A.length ≤ 12) (h2 : inputsS A ≤ 10) : permS A 6 = 0 := by
  unfold permS; rw [if_neg (by rw [hr]; simp), if_neg (by omega)]
theorem makeE_at {A : List (List Nat)} {h : Int} (hp : permS A h = 0) : makeE A h = if h < (dep A (inputsS A) (fullS A) : Nat) then 16 else 0 := by unfold makeE; rw [if_neg (by simp [hp])]
theorem perm_at {A : List (List Nat)} (hr : rightS A = true) (h1 : A.length ≤ 12) (h2 : inputsS A ≤ 10) {h : Int} (h0 : 0 ≤ h) (h6 : h ≤ 6) : permS A h = 0 := by
  unfold permS; rw [if_neg (by rw [hr]; simp; omega), if_neg (by omega)]
set_option maxRecDepth 100000 in
set_option maxHeartbeats 1000000 in
theorem Least_walk (w : World) (v : Value) (L : List (List Int)) (hv : IntRows w v L) (hG : G w) (hT : GT w) : Calls Tryz.prog 8 #[v] w (TruePost w) := by
  have HV := Lib.hid hv; have HG := Lib.hid hG; have HT := Lib.hid hT
  obtain ⟨ao, ac, rfl, hv1⟩ := hv.1.open
  have hv2 := hv.2
  obtain ⟨n, hn⟩ : ∃ n, n = min L.length 9 := ⟨_, rfl⟩
  have hmin : min (L.length : Int) 9 = n := by omega
  have hn0 : (0 : Int) ≤ n := by omega
  have hn1 : (n : Int) ≤ ac := by omega
  have hnl : n ≤ L.length := by omega
  have hn9 : n ≤ 9 := by omega
  have hnt : (L.take n).length = n := by simp; omega
  obtain ⟨hr, hal, hin⟩ := made_right (L.take n)
  rw [hnt] at hal
  obtain ⟨A, hA⟩ : ∃ A, A = madeS (L.take n) := ⟨_, rfl⟩
  rw [← hA] at hr hal hin
  have hA9 : A.length ≤ 9 := by omega
  have HA := Lib.hid hA; have HR := Lib.hid hr
  clear hv hG hT hn hA hr hnt
  go_enter Tryz.func8, Tryz.ntmps8
  go_wp2_with (first | (go_at_call 10; refine (sanity_call _ HG.out HT.out).mono ?_; rintro e w1 ⟨rfl, hb1⟩) | (go_at_call 11; refine (Made_call _ _ (L.take n) ((HV.out.take hnl).mono hb1)).mono ?_; rintro e w2 ⟨o2, rfl, ho2, hb2⟩))
  rw [← HA.out] at ho2
  have hva : ValRows w2 o2 A := by have := ho2; rw [HA.out] at this ⊢; exact this.made
  obtain ⟨oa, oc, rfl, _⟩ := hva.1.open
  have hb12 := bthen hb1 hb2
  have hok := ok_of HR.out (by omega) hin
  have HVA := Lib.hid hva; have HB := Lib.hid hb12; have HOK := Lib.hid hok
  have hdc := dep_card A (inputsS A) 12 (fullS A) (bits_len _)
  rw [full_card (by omega)] at hdc
  have hlo := lower_dep HR.out hok
  have hud := useful_dep HR.out hok
  have he6 := makeE_at (make6 HR.out (by omega) hin)
  obtain ⟨d, hd⟩ : ∃ d, d = dep A (inputsS A) (fullS A) := ⟨_, rfl⟩
  rw [← hd] at hdc hlo hud he6
  have HUD := Lib.hid hud; have HD := Lib.hid hd; have HE6 := Lib.hid he6
  clear hva hb12 hok hud hd he6 ho2 hb1 hb2 hal
  by_cases hd6 : 6 < d
  · have he : makeE A 6 = 16 := by rw [HE6.out, if_pos (by omega)]
    have HE := Lib.hid he
    have hA7 : (7 : Int) < A.length := by omega
    clear he
    refine (Make_call _ _ A 6 HVA.out (HG.out.mono HB.out) (HT.out.mono HB.out) (by omega)).mono ?_
    rintro e w3 ⟨p3, rfl, hp3, hb3⟩
    rw [HE.out]
    obtain ⟨pa, os, rfl, hq⟩ := hp3
    obtain ⟨qa, qc, rfl⟩ := own_slice hq.own
    clear hq
    go_wp2
    go_ret
    exact ⟨rfl, bstep (bthen HB.out hb3) (Below.refl _ _)⟩
  · have he : makeE A 6 = 0 := by rw [HE6.out, if_neg (by omega)]
    have hs6 : makeS A 6 = makeP A := by unfold makeS; rw [if_pos he]
    have HE := Lib.hid he; have HS6 := Lib.hid hs6
    clear he hs6
    refine (Make_call _ _ A 6 HVA.out (HG.out.mono HB.out) (HT.out.mono HB.out) (by omega)).mono ?_
    rintro e w3 ⟨p3, rfl, hp3, hb3⟩
    rw [HE.out]
    rw [HS6.out] at hp3
    obtain ⟨pa, os, rfl, hq⟩ := hp3
    obtain ⟨qa, qc, rfl⟩ := own_slice hq.own
    obtain ⟨lo, hlo2⟩ : ∃ lo, lo = lowerS A := ⟨_, rfl⟩
    rw [← hlo2] at hlo
    obtain ⟨pl, hpl⟩ : ∃ pl, pl = (makeP A).asks.length := ⟨_, rfl⟩
    rw [← hpl, show (makeP A).depth = d from HD.out.symm, show (makeP A).lower = lo from hlo2.symm]
    have HB3 := Lib.hid hb3
    clear hq hb3 hpl hlo2
    have hd6' : (d : Int) ≤ 6 := by omega
    have hpm : permS A d = 0 := perm_at HR.out (by omega) hin (by omega) hd6'
    have hEd : makeE A d = 0 := by rw [makeE_at hpm, ← HD.out, if_neg (by omega)]
    have HED := Lib.hid hEd
    clear hpm hEd
    go_wp2_with fail
    refine (Make_call _ _ A d (HVA.out.mono (bstep HB3.out (Below.refl _ _))) (HG.out.mono (bstep (bthen HB.out HB3.out) (Below.refl _ _))) (HT.out.mono (bstep (bthen HB.out HB3.out) (Below.refl _ _))) (by omega)).mono ?_
    rintro e w4 ⟨p4, rfl, hp4, hb4⟩
    rw [HED.out]
    obtain ⟨pa4, os4, rfl, hq4⟩ := hp4
    obtain ⟨qa4, qc4, rfl⟩ := own_slice hq4.own
    have HB4 := Lib.hid (bstep HB3.out hb4)
    have c0 : w4.cell? ⟨w3.heap.size, 0, none⟩ = some (.slice qa pl qc) := (olds hb4 _ _ (by simp)).trans (by simp)
    have c1 : w4.cell? ⟨w3.heap.size, 1, none⟩ = some (.int .i64 d) := (olds hb4 _ _ (by simp)).trans (by simp)
    have c2 : w4.cell? ⟨w3.heap.size, 2, none⟩ = some (.int .i64 lo) := (olds hb4 _ _ (by simp)).trans (by simp)
    have hs4 : w3.heap.size < w4.heap.size := by have := hb4.size; simp at this; omega
    obtain ⟨mk, hmk⟩ : ∃ mk, mk = makeS A d := ⟨_, rfl⟩
    rw [← hmk]
    clear hq4 hb4 hmk
    go_wp2_with fail
    by_cases hd0 : d = 0
    · have he9 : makeE A ((d : Int) - 1) = 1 := by
        have hp : permS A ((d : Int) - 1) = 1 := by unfold permS; rw [if_pos (by omega)]
        unfold makeE; rw [if_pos (by omega), hp]
      have hu0 : (usefulS A (inputsS A)).length = 0 := by rw [HUD.out.2 hd0]; rfl
      have d0 : ((d : Int) == 0) = true := by simp [hd0]
      have HE9 := Lib.hid he9; have HU := Lib.hid hu0
      clear he9 hu0 hd0
      refine (Make_call _ _ A ((d : Int) - 1) (HVA.out.mono (bstep HB4.out (Below.refl _ _))) (HG.out.mono (bstep (bthen HB.out HB4.out) (Below.refl _ _))) (HT.out.mono (bstep (bthen HB.out HB4.out) (Below.refl _ _))) (by omega)).mono ?_
      rintro e w5 ⟨p5, rfl, hp5, hb5⟩
      rw [HE9.out]
      obtain ⟨pa5, os5, rfl, hq5⟩ := hp5
      obtain ⟨qa5, qc5, rfl⟩ := own_slice hq5.own
      have HB5 := Lib.hid (bstep HB4.out hb5)
      have c1 := (olds (bin hb5) _ _ hs4).trans c1
      have hs4 := Nat.lt_of_lt_of_le hs4 (bin hb5).size
      obtain ⟨mk5, hmk⟩ : ∃ mk, mk = makeS A ((d : Int) - 1) := ⟨_, rfl⟩
      rw [← hmk]
      clear hq5 hb5 hmk
      go_upto_region 13 with (fail)
      obtain ⟨W, hW⟩ : ∃ W, W = (w5.alloc (.cells #[.slice qa5 mk5.asks.length qc5, .int .i64 mk5.depth, .int .i64 mk5.lower] 29)) := ⟨_, rfl⟩
      have hbW : Below w5.heap.size w5 W := by rw [hW]; exact below1 _ _
      rw [← hW]
      have e1 := (olds hbW _ _ hs4).trans c1
      have hs5 := Nat.lt_of_lt_of_le hs4 hbW.size
      have HBW := Lib.hid (bthen HB5.out hbW)
      clear hW hbW c0 c1 c2 hs4
      go_region_held3 (fun w' => ∀ b o, b < W.heap.size → w'.cell? ⟨b, o, none⟩ = W.cell? ⟨b, o, none⟩) (first | exact olds (Below.refl _ _) | exact olds ((Below.refl _ _).drew) | exact olds ‹Below W.heap.size W _›)  (first | (go_at_call 21; refine (Useful_call _ _ A (HVA.out.mono HBW.out.drew) (HG.out.mono (bthen HB.out HBW.out).drew) (by omega)).mono ?_; rintro e w7 ⟨v7, rfl, ho7, hb7⟩; have hbw7 := bdrew hb7; obtain ⟨ua, uc, rfl⟩ := own_slice ho7; rw [pInts_len, HU.out]))
      go_wp2
      go_ret
      exact ⟨rfl, bthen (bthen HB.out HBW.out) hbw7⟩
    · have he9 : makeE A ((d : Int) - 1) = 16 := by
        have hp : permS A ((d : Int) - 1) = 0 := perm_at HR.out (by omega) hin (by omega) (by omega)
        rw [makeE_at hp, ← HD.out, if_pos (by omega)]
      have hu0 : 0 < (usefulS A (inputsS A)).length := by
        apply Nat.pos_of_ne_zero
        intro h
        exact hd0 (HUD.out.1 (List.eq_nil_of_length_eq_zero h))
      have d0 : ((d : Int) == 0) = false := by simp [hd0]
      obtain ⟨ul, hul⟩ : ∃ ul, ul = (usefulS A (inputsS A)).length := ⟨_, rfl⟩
      rw [← hul] at hu0
      have u0 : ((ul : Int) == 0) = false := by rw [beq_eq_false_iff_ne]; omega
      have HE9 := Lib.hid he9; have HU := Lib.hid hul
      clear he9 hul
      refine (Make_call _ _ A ((d : Int) - 1) (HVA.out.mono (bstep HB4.out (Below.refl _ _))) (HG.out.mono (bstep (bthen HB.out HB4.out) (Below.refl _ _))) (HT.out.mono (bstep (bthen HB.out HB4.out) (Below.refl _ _))) (by omega)).mono ?_
      rintro e w5 ⟨p5, rfl, hp5, hb5⟩
      rw [HE9.out]
      obtain ⟨pa5, os5, rfl, hq5⟩ := hp5
      obtain ⟨qa5, qc5, rfl⟩ := own_slice hq5.own
      have HB5 := Lib.hid (bstep HB4.out hb5)
      have c1 := (olds (bin hb5) _ _ hs4).trans c1
      have hs4 := Nat.lt_of_lt_of_le hs4 (bin hb5).size
      obtain ⟨mk5, hmk⟩ : ∃ mk, mk = makeS A ((d : Int) - 1) := ⟨_, rfl⟩
      rw [← hmk]
      clear hq5 hb5 hmk
      go_upto_region 13 with (fail)
      obtain ⟨W, hW⟩ : ∃ W, W = (w5.alloc (.cells #[.slice qa5 mk5.asks.length qc5, .int .i64 mk5.depth, .int .i64 mk5.lower] 29)) := ⟨_, rfl⟩
      have hbW : Below w5.heap.size w5 W := by rw [hW]; exact below1 _ _
      rw [← hW]
      have e1 := (olds hbW _ _ hs4).trans c1
      have hs5 := Nat.lt_of_lt_of_le hs4 hbW.size
      have HBW := Lib.hid (bthen HB5.out hbW)
      clear hW hbW c0 c1 c2 hs4
      go_region_held3 (fun w' => ∀ b o, b < W.heap.size → w'.cell? ⟨b, o, none⟩ = W.cell? ⟨b, o, none⟩) (first | exact olds (Below.refl _ _) | exact olds ((Below.refl _ _).drew) | exact olds ‹Below W.heap.size W _›)  (first | (go_at_call 21; refine (Useful_call _ _ A (HVA.out.mono HBW.out.drew) (HG.out.mono (bthen HB.out HBW.out).drew) (by omega)).mono ?_; rintro e w7 ⟨v7, rfl, ho7, hb7⟩; have hbw7 := bdrew hb7; obtain ⟨ua, uc, rfl⟩ := own_slice ho7; rw [pInts_len, ← HU.out]))
      go_wp2
      go_ret
      exact ⟨rfl, bthen (bthen HB.out HBW.out) hbw7⟩
end Go.Proofs.YtoiemkifgdnhaaaGreatDoor
