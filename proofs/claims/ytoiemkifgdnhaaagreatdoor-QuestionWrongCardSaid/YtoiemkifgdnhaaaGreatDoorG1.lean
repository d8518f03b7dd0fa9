/- Small numbers of the reference. Conditions: numbers are 0 to 9.
  Small numbers of the reference: as ints, and their order. Conditions: numbers are 0 to 9.
  Small numbers of the reference: digits, differences. Conditions: numbers are 0 to 9.
  Decimals from 0 to 9 of the reference, and their order. Conditions: numbers are 0 to 9.
  The order of decimals from 0 to 9, by the reference. Conditions: numbers are 0 to 9.
  Which values are right, by the reference. Conditions: each value is one of the eleven.
  The order of values, by the reference. Conditions: each value is one of the eleven.
  Right, Inputs, by the reference. Conditions: each value is one of the eleven. -/
import Derived.Test.YtoiemkifgdnhaaaGreatDoorT1
import Derived.Laws.IdiomStrings
namespace Go.Proofs.YtoiemkifgdnhaaaGreatDoor
open Go Go.RowKit
/-- A number from 0 to 9 as the reference writes it. -/
def ns (n : Nat) : ByteArray := if n = 0 then ⟨#[]⟩ else ⟨#[n.toUInt8]⟩
/-- Eight bytes: the number. -/
def pad (i n : Nat) : ByteArray := ⟨(List.replicate i 0 ++ (if n = 0 then [] else [n.toUInt8])).toArray⟩
theorem pad_size (i n : Nat) (h : n ≠ 0) : (pad i n).size = i + 1 := by simp [pad, h, ByteArray.size]
theorem pad_get (i n j : Nat) (h : n ≠ 0) (hn : n ≤ 9) (hj : j < (pad i n).size) : ((pad i n)[j]).toNat = if j < i then 0 else n := by
  have hs := pad_size i n h
  have e : (pad i n)[j] = (List.replicate i 0 ++ [n.toUInt8])[j]'(by simp; omega) := by
    show (pad i n).data[j]'_ = _
    simp [pad, h]
  rw [e]
  split
  · rw [List.getElem_append_left (by simpa using ‹j < i›)]; simp
  · rw [List.getElem_append_right (by simp; omega)]
    simp [Nat.toUInt8]; omega
theorem pad_cut (i n : Nat) (h : n ≠ 0) (hi : i ≤ 7) (hn : n ≤ 9) : (pad i n).extract i (i + 1) = ns n := by
  have key : ∀ i < 8, ∀ n < 10, n ≠ 0 → (pad i n).extract i (i + 1) = ns n := of_decide_eq_true (by kernel_rfl)
  exact key i (by omega) n (by omega) h
set_option maxHeartbeats 400000 in
theorem canon_pad (i n : Nat) (h0 : n ≠ 0) (hi : i ≤ 7) (hn : n ≤ 9) (w : World) : Calls Tryz.prog 180 #[.string (pad i n)] w fun e w' => e = .returned (.string (ns n)) ∧ w' = w := by
  have hs := pad_size i n h0
  have hg := pad_get i n
  have hc := pad_cut i n h0 hi hn
  generalize pad i n = P at *
  go_enter Tryz.func180, Tryz.ntmps180
  go_wp2
  go_loopw [3] (fun k wr => ∃ j : Nat, j ≤ i ∧ k = .int .i64 j ∧ wr = w) (fun k _ => i - (intOf k).toNat)
  case atStart => exact ⟨0, by omega, rfl, rfl⟩
  case round =>
    obtain ⟨j, hj, rfl, hw⟩ := hrel
    subst hw
    have q1 : (j:Int) < P.size := by omega
    have q0 : (0:Int) ≤ j := by omega
    have q2 : j < P.size := by omega
    have q3 := hg j h0 hn q2
    by_cases hlt : j < i
    · rw [if_pos hlt] at q3
      clear hg hc
      go_wp2
      exact ⟨⟨j + 1, by omega, by go_num, trivial⟩, by simp [intOf]; omega⟩
    · obtain rfl : j = i := by omega
      rw [if_neg hlt] at q3
      have q4 : ((n : Int) == 0) = false := by rw [beq_eq_false_iff_ne]; omega
      have q5 : (j:Int) ≤ P.size := by omega
      clear hg
      go_wp2
      go_ret
      simp [hc]
set_option maxHeartbeats 400000 in
theorem canon_nil (w : World) : Calls Tryz.prog 180 #[.string ⟨#[]⟩] w fun e w' => e = .returned (.string ⟨#[]⟩) ∧ w' = w := by
  go_enter Tryz.func180, Tryz.ntmps180
  go_wp2
  refine wp_loop_rounds 1 ?_; rw [rounds_succ]
  go_wp2
  go_ret
  exact ⟨rfl, rfl⟩
theorem canon_ns (n : Nat) (hn : n ≤ 9) (w : World) : Calls Tryz.prog 180 #[.string (ns n)] w fun e w' => e = .returned (.string (ns n)) ∧ w' = w := by
  by_cases h : n = 0
  · subst h; exact canon_nil w
  · have := canon_pad 0 n h (by omega) hn w
    rwa [show pad 0 n = ns n by unfold pad ns; rw [if_neg h, if_neg h]; rfl] at this
theorem info_byte : (Tryz.prog.info? 5).map (fun i => (i.zero, i.size, i.bytes)) = some (some (.int .u8 0), 1, 1) := by kernel_rfl
theorem und_bytes : Tryz.prog.underlying 177 = some (.slice 5) := by kernel_rfl
def bl (i n : Nat) : List UInt8 := if i ≤ 7 then List.replicate i 0 else List.replicate 7 0 ++ [n.toUInt8]
def oct8 (i n : Nat) : List Value := (bl i n).map fun b => .int .u8 (b.toNat : Int)
theorem und_byte8 : Tryz.prog.underlying 5 = some (.int .u8) := by kernel_rfl
theorem und_nat : Tryz.prog.underlying 165 = some .string := by kernel_rfl
theorem oct8_succ {i n : Nat} (hi : i < 8) (hn : n ≤ 9) : oct8 (i + 1) n = oct8 i n ++ [.int .u8 ((if i < 7 then 0 else n : Nat) : Int)] := by
  unfold oct8 bl
  by_cases h : i < 7
  · rw [if_pos (show i + 1 ≤ 7 by omega), if_pos (show i ≤ 7 by omega), if_pos h, List.replicate_succ', List.map_append]; rfl
  · obtain rfl : i = 7 := by omega
    rw [if_neg (by omega), if_pos (by omega), if_neg h, List.map_append]
    have : (n.toUInt8).toNat = n := by simp [Nat.toUInt8]; omega
    simp [this]
set_option maxRecDepth 100000 in
set_option maxHeartbeats 400000 in
theorem of_pos (n : Nat) (h0 : n ≠ 0) (hn : n ≤ 9) (w : World) : Calls Tryz.prog 174 #[.int .i64 n] w fun e w' => e = .returned (.string (ns n)) ∧ Below w.heap.size w w' := by
  obtain ⟨i0, hi, hz0, hz1, hz2⟩ := info_parts info_byte
  have Hi := Lib.hid hi; have Hz0 := Lib.hid hz0; have Hz1 := Lib.hid hz1; have Hz2 := Lib.hid hz2
  have g0 : (0 : Int) < n := by omega
  clear hi hz0 hz1 hz2
  go_enter Tryz.func174, Tryz.ntmps174
  go_wp2
  go_loopw [3, 4] (fun b k wr => ∃ i : Nat, i ≤ 8 ∧ k = .int .i64 (56 - 8 * i : Int) ∧ wr.ownsRow w.heap.size 5 1 b i (oct8 i n) ∧ Below w.heap.size w wr) (fun _ k _ => 64 - (intOf k + 8).toNat + 100 * (intOf k + 8).toNat)
  case atStart => exact ⟨0, by omega, rfl, World.ownsRow_nil _ _ _ _, Below.refl _ _⟩
  case round =>
    obtain ⟨i, hi, rfl, ho, hb⟩ := hrel
    obtain ⟨oa, oc, rfl⟩ := own_slice ho
    have HO := Lib.hid ho; have HB := Lib.hid hb
    by_cases hlt : i < 8
    · have q1 : (56 - 8 * i : Int) ≥ 0 := by omega
      obtain ⟨x, hx⟩ : ∃ x : Int, x = (n : Int) / 2 ^ (56 - 8 * i) % 256 := ⟨_, rfl⟩
      have hx2 : x = if i < 7 then 0 else n := by
        have key : ∀ i < 8, ∀ n < 10, ((n : Nat) : Int) / 2 ^ (56 - 8 * i) % 256 = if i < 7 then 0 else ((n : Nat) : Int) := of_decide_eq_true (by kernel_rfl)
        rw [hx, key i hlt n (by omega)]; split <;> rfl
      have HX2 := Lib.hid hx2
      have hx3 := hx.symm
      clear ho hb hx hx2
      go_wp2_with (at_builtin; refine wpList_app rfl (.tmp 13) (.tmp 18) 177 rfl w.heap.size 5 i0 (.int .u8 0) 1 1 und_bytes Hi.out Hz0.out Hz1.out Hz2.out rfl (by decide) _ _ _ rfl (HO.out.alloc _) ⟨wr.heap.size, 0, none⟩ 1 1 [.int .u8 x] rfl rfl (cell_one_new _ _ _) (by intro q hq; simp at hq; subst hq; rfl) (by unfold maxLen; omega) (by omega) (by have := HB.out.size; simp; omega) ?_; intro v' w9 hown hgr hfr)
      refine ⟨⟨i + 1, by omega, by go_num, ?_, (HB.out.alloc HB.out.size _).grown hgr (by have := HB.out.size; simp; omega) (fun g hg => (HO.out.lt g hg).1)⟩, by simp [intOf]; omega⟩
      rw [oct8_succ hlt hn, ← HX2.out]; exact hown
    · obtain rfl : i = 8 := by omega
      obtain ⟨g, cap, e⟩ := own_shape ho (by omega)
      simp only [Value.slice.injEq] at e
      obtain ⟨rfl, _, rfl⟩ := e
      have hl8 : (bl 8 n).length = 8 := by simp [bl]
      have hcv := run_convert_bytes_back (P := Tryz.prog) wr 177 165 5 ⟨g, 0, none⟩ oc (bl 8 n) und_bytes und_byte8 und_nat (fun j hj => by
        rw [Addr.add_lit, Nat.zero_add, ho.cellAt j (by omega)]
        simp [oct8, hj])
      rw [hl8, show (⟨(bl 8 n).toArray⟩ : ByteArray) = pad 7 n by unfold bl pad; rw [if_neg (by omega), if_neg h0]] at hcv
      have HCV := Lib.hid hcv
      clear ho hb
      go_wp2_with (go_at_call 180; refine (canon_pad 7 n h0 (by omega) hn _).mono ?_; rintro e w1 ⟨rfl, rfl⟩)
      go_ret
      exact ⟨rfl, HB.out⟩
theorem of_small (n : Nat) (hn : n ≤ 9) (w : World) : Calls Tryz.prog 174 #[.int .i64 n] w fun e w' => e = .returned (.string (ns n)) ∧ Below w.heap.size w w' := by
  by_cases h0 : n = 0
  · subst h0
    have hcv := fun w => run_convert_bytes_nil (P := Tryz.prog) (w := w) 177 5 und_bytes und_byte8 0 0 165 und_nat
    go_enter Tryz.func174, Tryz.ntmps174
    go_wp2
    refine wp_loop_rounds 1 ?_; rw [rounds_succ]
    go_wp2_with (go_at_call 180; refine (canon_nil _).mono ?_; rintro e w1 ⟨rfl, rfl⟩)
    go_ret
    exact ⟨rfl, Below.refl _ _⟩
  · exact of_pos n h0 hn w
end Go.Proofs.YtoiemkifgdnhaaaGreatDoor
namespace Go.Proofs.YtoiemkifgdnhaaaGreatDoor
open Go Go.RowKit
theorem ns_size {n : Nat} (h : n ≠ 0) : (ns n).size = 1 := by simp [ns, h, ByteArray.size]
theorem ns_get {n : Nat} (h : n ≠ 0) (hn : n ≤ 9) (hj : 0 < (ns n).size) : ((ns n)[0]).toNat = n := by
  have key : ∀ n < 10, n ≠ 0 → ∀ h : 0 < (ns n).size, ((ns n)[0]).toNat = n := of_decide_eq_true (by kernel_rfl)
  exact key n (by omega) h hj
set_option maxHeartbeats 400000 in
theorem int_small (n : Nat) (hn : n ≤ 9) (w : World) : Calls Tryz.prog 182 #[.string (ns n)] w fun e w' => e = .returned (.tuple #[.int .i64 n, .bool true]) ∧ w' = w := by
  by_cases h0 : n = 0
  · subst h0
    show Calls Tryz.prog 182 #[.string ⟨#[]⟩] w _
    go_enter Tryz.func182, Tryz.ntmps182
    go_wp2_with (go_at_call 180; refine (canon_nil _).mono ?_; rintro e w1 ⟨rfl, rfl⟩)
    refine wp_loop_rounds 1 ?_; rw [rounds_succ]
    go_wp2
    exact bodyPost_ret (v := .tuple #[.int .i64 0, .bool true]) (by simp [results, Tryz.results182, go_sem]) rfl ⟨rfl, rfl⟩
  · have hs := ns_size h0
    have hg := ns_get h0 hn
    have hc := canon_ns n hn
    generalize ns n = P at *
    have q2 : 0 < P.size := by omega
    have q1 : (0:Int) < P.size := by omega
    have q3 := hg q2
    have q4 : (P.size : Int) = 1 := by omega
    have HC := Lib.hid hc
    clear hg hc hs
    go_enter Tryz.func182, Tryz.ntmps182
    go_wp2_with (go_at_call 180; refine (HC.out _).mono ?_; rintro e w1 ⟨rfl, rfl⟩)
    refine wp_loop_rounds 2 ?_; rw [rounds_succ]
    go_wp2
    rw [rounds_succ]
    go_wp2
    exact bodyPost_ret (v := .tuple #[.int .i64 n, .bool true]) (by simp [results, Tryz.results182, go_sem]) rfl ⟨rfl, rfl⟩
set_option maxHeartbeats 400000 in
theorem small_small (n m : Nat) (hm : 1 ≤ m) (hn : n ≤ 9) (w : World) : Calls Tryz.prog 177 #[.string (ns n), .int .i64 m] w fun e w' => e = .returned (.tuple #[.int .i64 n, .bool true]) ∧ w' = w := by
  have hs : ¬ ((m : Int) < (ns n).size) := by
    have : (ns n).size ≤ 1 := by unfold ns; split <;> simp [ByteArray.size]
    omega
  have hc := canon_ns n hn
  have hi := int_small n hn
  generalize ns n = P at *
  have HC := Lib.hid hc; have HI := Lib.hid hi
  clear hc hi
  go_enter Tryz.func177, Tryz.ntmps177
  go_wp2_with (first | (go_at_call 180; refine (HC.out _).mono ?_; rintro e w1 ⟨rfl, rfl⟩) | (go_at_call 182; refine (HI.out _).mono ?_; rintro e w1 ⟨rfl, rfl⟩))
  exact bodyPost_ret (v := .tuple #[.int .i64 n, .bool true]) (by simp [results, Tryz.results177, go_sem]) rfl ⟨rfl, rfl⟩
set_option maxRecDepth 100000 in
set_option maxHeartbeats 400000 in
theorem mul_small (p q : Nat) (hp : p ≤ 9) (hq : q ≤ 9) (hpq : p * q ≤ 9) (w : World) : Calls Tryz.prog 175 #[.string (ns p), .string (ns q)] w fun e w' => e = .returned (.string (ns (p * q))) ∧ Below w.heap.size w w' := by
  have e1 : wrap64 ((p : Int) * q) = ((p * q : Nat) : Int) := by rw [← Int.natCast_mul]; generalize p * q = t at *; unfold wrap64; omega
  have h1 := small_small p 3 (by omega) hp; have h2 := small_small q 4 (by omega) hq; have h3 := of_small (p * q) hpq
  generalize ns p = P at *
  generalize ns q = Q at *
  generalize ns (p * q) = R at *
  have H1 := Lib.hid h1; have H2 := Lib.hid h2; have H3 := Lib.hid h3
  generalize p * q = t at *
  clear h1 h2 h3
  go_enter Tryz.func175, Tryz.ntmps175
  go_wp2_with fail
  refine (H1.out _).mono ?_; rintro e w1 ⟨rfl, rfl⟩
  go_wp2_with fail
  refine (H2.out _).mono ?_; rintro e w1 ⟨rfl, rfl⟩
  go_wp2_with fail
  refine (H3.out _).mono ?_; rintro e w1 ⟨rfl, hb1⟩
  go_wp2_with fail
  go_ret
  exact ⟨rfl, hb1⟩
def c01 (p q : Nat) : Int := if p < q then -1 else if q < p then 1 else 0
set_option maxRecDepth 100000 in
theorem c01_a {p q : Nat} (hp : p ≤ 9) (hq : q ≤ 9) (h0 : (((ns p).size : Int) != (ns q).size) = true) (h1 : (ns p).size < (ns q).size) : c01 p q =  (-1) := by
  have key : ∀ p < 10, ∀ q < 10, (((((ns p).size : Int) != (ns q).size) = true) ∧ ((ns p).size < (ns q).size)) → c01 p q = (-1) := of_decide_eq_true (by kernel_rfl)
  exact key p (by omega) q (by omega) ⟨h0, h1⟩
set_option maxRecDepth 100000 in
theorem c01_b {p q : Nat} (hp : p ≤ 9) (hq : q ≤ 9) (h0 : (((ns p).size : Int) != (ns q).size) = true) (h1 : ¬ (ns p).size < (ns q).size) : c01 p q = 1 := by
  have key : ∀ p < 10, ∀ q < 10, (((((ns p).size : Int) != (ns q).size) = true) ∧ (¬ (ns p).size < (ns q).size)) → c01 p q = 1 := of_decide_eq_true (by kernel_rfl)
  exact key p (by omega) q (by omega) ⟨h0, h1⟩
set_option maxRecDepth 100000 in
theorem c01_c {p q : Nat} (hp : p ≤ 9) (hq : q ≤ 9) (h0 : (((ns p).size : Int) != (ns q).size) = false) (h1 : Op.bytesLess (ns p).toList (ns q).toList = true) : c01 p q =  (-1) := by
  have key : ∀ p < 10, ∀ q < 10, (((((ns p).size : Int) != (ns q).size) = false) ∧ (Op.bytesLess (ns p).toList (ns q).toList = true)) → c01 p q = (-1) := of_decide_eq_true (by kernel_rfl)
  exact key p (by omega) q (by omega) ⟨h0, h1⟩
set_option maxRecDepth 100000 in
theorem c01_d {p q : Nat} (hp : p ≤ 9) (hq : q ≤ 9) (h0 : (((ns p).size : Int) != (ns q).size) = false) (h1 : Op.bytesLess (ns p).toList (ns q).toList = false) (h2 : (!(ns p).toList == (ns q).toList) = true) : c01 p q = 1 := by
  have key : ∀ p < 10, ∀ q < 10, (((((ns p).size : Int) != (ns q).size) = false) ∧ (Op.bytesLess (ns p).toList (ns q).toList = false) ∧ ((!(ns p).toList == (ns q).toList) = true)) → c01 p q = 1 := of_decide_eq_true (by kernel_rfl)
  exact key p (by omega) q (by omega) ⟨h0, h1, h2⟩
set_option maxRecDepth 100000 in
theorem c01_e {p q : Nat} (hp : p ≤ 9) (hq : q ≤ 9) (h0 : (((ns p).size : Int) != (ns q).size) = false) (h1 : Op.bytesLess (ns p).toList (ns q).toList = false) (h2 : (!(ns p).toList == (ns q).toList) = false) : c01 p q = 0 := by
  have key : ∀ p < 10, ∀ q < 10, (((((ns p).size : Int) != (ns q).size) = false) ∧ (Op.bytesLess (ns p).toList (ns q).toList = false) ∧ ((!(ns p).toList == (ns q).toList) = false)) → c01 p q = 0 := of_decide_eq_true (by kernel_rfl)
  exact key p (by omega) q (by omega) ⟨h0, h1, h2⟩
set_option maxRecDepth 100000 in
set_option maxHeartbeats 400000 in
theorem cmp01 (p q : Nat) (hp : p ≤ 9) (hq : q ≤ 9) (w : World) : Calls Tryz.prog 170 #[.string (ns p), .string (ns q)] w fun e w' => e = .returned (.int .i64 (c01 p q)) ∧ w' = w := by
  have hcp := canon_ns p hp; have hcq := canon_ns q hq
  obtain ⟨P, hP⟩ : ∃ P, P = ns p := ⟨_, rfl⟩
  obtain ⟨Q, hQ⟩ : ∃ Q, Q = ns q := ⟨_, rfl⟩
  rw [← hP] at hcp ⊢; rw [← hQ] at hcq ⊢
  have HCP := Lib.hid hcp; have HCQ := Lib.hid hcq; have HP := Lib.hid hP; have HQ := Lib.hid hQ
  clear hcp hcq hP hQ
  go_enter Tryz.func170, Tryz.ntmps170
  go_wp2_with fail
  refine (HCP.out _).mono ?_; rintro e w1 ⟨rfl, rfl⟩
  go_wp2_with fail
  refine (HCQ.out _).mono ?_; rintro e w1 ⟨rfl, rfl⟩
  go_wp2_with fail
  · go_ret
    refine ⟨?_, rfl⟩
    rw [c01_a hp hq (by rw [← HP.out, ← HQ.out]; assumption) (by rw [← HP.out, ← HQ.out]; assumption)]; rfl
  · go_ret
    refine ⟨?_, rfl⟩
    rw [c01_b hp hq (by rw [← HP.out, ← HQ.out]; assumption) (by rw [← HP.out, ← HQ.out]; assumption)]; rfl
  · go_ret
    refine ⟨?_, rfl⟩
    rw [c01_c hp hq (by rw [← HP.out, ← HQ.out]; assumption) (by rw [← HP.out, ← HQ.out]; assumption)]; rfl
  · go_ret
    refine ⟨?_, rfl⟩
    rw [c01_d hp hq (by rw [← HP.out, ← HQ.out]; assumption) (by rw [← HP.out, ← HQ.out]; assumption) (by rw [← HP.out, ← HQ.out]; assumption)]; rfl
  · go_ret
    refine ⟨?_, rfl⟩
    rw [c01_e hp hq (by rw [← HP.out, ← HQ.out]; assumption) (by rw [← HP.out, ← HQ.out]; assumption) (by rw [← HP.out, ← HQ.out]; assumption)]; rfl
/-- A number from 0 to 9 as its digits. -/
def dg (n : Nat) : List Int := if n = 0 then [] else [(n : Int)]
set_option maxRecDepth 100000 in
set_option maxHeartbeats 400000 in
theorem of01 (n : Nat) (hn : n ≤ 9) (w : World) : Calls Tryz.prog 178 #[.string (ns n)] w (OwnB w.heap.size (dg n) w) := by
  obtain ⟨i0, hi, hz0, hz1, hz2⟩ := info_parts info_int
  have Hi := Lib.hid hi; have Hz0 := Lib.hid hz0; have Hz1 := Lib.hid hz1; have Hz2 := Lib.hid hz2
  clear hi hz0 hz1 hz2
  by_cases h0 : n = 0
  · subst h0
    show Calls Tryz.prog 178 #[.string ⟨#[]⟩] w _
    go_enter Tryz.func178, Tryz.ntmps178
    go_wp2_with (go_at_call 180; refine (canon_nil _).mono ?_; rintro e w1 ⟨rfl, rfl⟩)
    refine wp_loop_rounds 1 ?_; rw [rounds_succ]
    go_wp2
    go_ret
    exact ⟨_, rfl, World.ownsRow_nil _ _ _ _, Below.refl _ _⟩
  · have hs := ns_size h0
    have hg := ns_get h0 hn
    have hc := canon_ns n hn
    generalize ns n = P at *
    have q2 : 0 < P.size := by omega
    have q1 : (0:Int) < P.size := by omega
    have q3 := hg q2
    have q4 : (P.size : Int) = 1 := by omega
    have m0 : max (-2 : Int) 0 = 0 := by decide
    have wn : wrap64 (n : Int) = n := by unfold wrap64; omega
    have HC := Lib.hid hc
    clear hg hc hs
    go_enter Tryz.func178, Tryz.ntmps178
    go_wp2_with (go_at_call 180; refine (HC.out _).mono ?_; rintro e w1 ⟨rfl, rfl⟩)
    refine wp_loop_rounds 2 ?_; rw [rounds_succ]
    go_wp2
    refine wp_loop_rounds 2 ?_; rw [rounds_succ]
    go_wp2
    rw [rounds_succ]
    go_wp2_with (at_builtin; go_loud (refine wpList_app rfl (.tmp 30) (.tmp 32) 26 rfl w1.heap.size 3 i0 (.int .i64 0) 1 8 und_ints Hi.out Hz0.out Hz1.out Hz2.out rfl (by decide) _ 0 [] rfl (World.ownsRow_nil _ _ _ _) ⟨w1.heap.size, 0, none⟩ 1 1 [.int .i64 n] rfl rfl (cell_one_new _ _ _) (by intro q hq; simp at hq; subst hq; rfl) (by unfold maxLen; omega) (by omega) (by simp) ?_; intro v' w9 hown hgr hfr))
    rw [rounds_succ]
    go_wp2
    go_ret
    exact ⟨_, rfl, by unfold dg; rw [if_neg h0]; exact hown, (below1 _ _).grown hgr (by simp) (fun g hg => by cases hg)⟩
end Go.Proofs.YtoiemkifgdnhaaaGreatDoor
namespace Go.Proofs.YtoiemkifgdnhaaaGreatDoor
open Go Go.RowKit
theorem dg_pos {n : Nat} (h : n ≠ 0) : dg n = [(n : Int)] := by unfold dg; rw [if_neg h]
def DigPost (n : Nat) (w : World) (e : Ending) (w' : World) : Prop := ∃ v, e = .returned v ∧ Ints w' v (dg n) ∧ Below w.heap.size w w'
set_option maxHeartbeats 400000 in
theorem trim_nil (v : Value) (w : World) (hv : Ints w v []) : Calls Tryz.prog 183 #[v] w (DigPost 0 w) := by
  have HV := Lib.hid hv
  obtain ⟨ao, ac, rfl, _⟩ := hv.1.open
  clear hv
  go_enter Tryz.func183, Tryz.ntmps183
  go_wp2
  refine wp_loop_rounds 1 ?_; rw [rounds_succ]
  go_wp2
  go_ret
  exact ⟨_, rfl, HV.out, Below.refl _ _⟩
set_option maxHeartbeats 400000 in
theorem trim_one (n : Nat) (hn : n ≤ 9) (v : Value) (w : World) (hv : Ints w v [(n : Int)]) : Calls Tryz.prog 183 #[v] w (DigPost n w) := by
  have HV := Lib.hid hv
  obtain ⟨ao, ac, rfl, ha⟩ := hv.1.open
  obtain ⟨b, o, rfl, g, hc⟩ := hv.1.at (k := 0) (by simp)
  simp only [Nat.zero_mul, Nat.add_zero, List.getD_cons_zero] at hc
  simp only [List.length_singleton] at *
  clear hv
  by_cases h0 : n = 0
  · have n0 : ((n : Int) == 0) = true := by simp [h0]
    go_enter Tryz.func183, Tryz.ntmps183
    go_wp2
    refine wp_loop_rounds 2 ?_; rw [rounds_succ]
    go_wp2
    rw [rounds_succ]
    go_wp2
    go_ret
    subst h0
    exact ⟨_, rfl, ⟨⟨_, _, rfl, by simp [dg], fun h => by simp [dg] at h⟩, by simp [dg], by simp [dg]⟩, Below.refl _ _⟩
  · have n0 : ((n : Int) == 0) = false := by rw [beq_eq_false_iff_ne]; omega
    go_enter Tryz.func183, Tryz.ntmps183
    go_wp2
    refine wp_loop_rounds 1 ?_; rw [rounds_succ]
    go_wp2
    go_ret
    exact ⟨_, rfl, by rw [dg_pos h0]; exact HV.out, Below.refl _ _⟩
set_option maxRecDepth 100000 in
set_option maxHeartbeats 400000 in
theorem minus01 (p q : Nat) (hp : p ≤ 9) (hqp : q ≤ p) (a b : Value) (w : World) (ha : Ints w a (dg p)) (hb : Ints w b (dg q)) : Calls Tryz.prog 181 #[a, b] w (DigPost (p - q) w) := by
  obtain ⟨i0, hi, hz0, hz1, hz2⟩ := info_parts info_int
  have Hi := Lib.hid hi; have Hz0 := Lib.hid hz0; have Hz1 := Lib.hid hz1; have Hz2 := Lib.hid hz2
  clear hi hz0 hz1 hz2
  obtain ⟨ao, ac, rfl, _⟩ := ha.1.open
  obtain ⟨bo, bc, rfl, _⟩ := hb.1.open
  by_cases h0 : p = 0
  · have e1 : (dg p).length = 0 := by simp [dg, h0]
    have e2 : p - q = 0 := by omega
    rw [e1, e2]
    clear ha hb
    go_enter Tryz.func181, Tryz.ntmps181
    go_wp2
    refine wp_loop_rounds 1 ?_; rw [rounds_succ]
    go_wp2_with (go_at_call 183; refine (trim_nil _ _ (Ints.nil _)).mono ?_; rintro e w1 ⟨v1, rfl, h1, hb1⟩)
    go_ret
    exact ⟨_, rfl, h1, hb1⟩
  · rw [dg_pos h0] at *
    obtain ⟨b1, o1, rfl, g1, c1⟩ := ha.1.at (k := 0) (by simp)
    simp only [Nat.zero_mul, Nat.add_zero, List.getD_cons_zero] at c1
    have wp_ : wrap64 (p : Int) = p := by unfold wrap64; omega
    by_cases hq0 : q = 0
    · have e1 : (dg q).length = 0 := by simp [dg, hq0]
      simp only [List.length_singleton, e1] at *
      have n0 : ¬ ((p : Int) < 0) := by omega
      clear ha hb
      go_enter Tryz.func181, Tryz.ntmps181
      go_wp2
      refine wp_loop_rounds 2 ?_; rw [rounds_succ]
      go_wp2_with (at_builtin; go_loud (refine wpList_app rfl (.tmp 35) (.tmp 37) 26 rfl w.heap.size 3 i0 (.int .i64 0) 1 8 und_ints Hi.out Hz0.out Hz1.out Hz2.out rfl (by decide) _ 0 [] rfl (World.ownsRow_nil _ _ _ _) ⟨w.heap.size, 0, none⟩ 1 1 [.int .i64 p] rfl rfl (cell_one_new _ _ _) (by intro q hq; simp at hq; subst hq; rfl) (by unfold maxLen; omega) (by omega) (by simp) ?_; intro v' w9 hown hgr hfr))
      rw [rounds_succ]
      have hb9 : Below w.heap.size w w9 := (below1 _ _).grown hgr (by simp) (fun g hg => by cases hg)
      have hI : Ints w9 v' [(p : Int)] := own_ints (xs := [(p : Int)]) hown (by simp) (by simp; omega)
      obtain ⟨va_, vc, rfl⟩ := own_slice hown
      go_wp2_with (go_at_call 183; refine (trim_one p hp _ _ hI).mono ?_; rintro e w1 ⟨v1, rfl, h1, hb1⟩)
      go_ret
      exact ⟨_, rfl, by rw [show p - q = p by omega]; exact h1, bthen hb9 hb1⟩
    · rw [dg_pos hq0] at *
      obtain ⟨b2, o2, rfl, g2, c2⟩ := hb.1.at (k := 0) (by simp)
      simp only [Nat.zero_mul, Nat.add_zero, List.getD_cons_zero] at c2
      obtain ⟨d, hd⟩ : ∃ d, d = p - q := ⟨_, rfl⟩
      have wd : (p : Int) - q = d := by omega
      have n0 : ¬ ((d : Int) < 0) := by omega
      simp only [List.length_singleton] at *
      rw [← hd]
      clear ha hb hd
      go_enter Tryz.func181, Tryz.ntmps181
      go_wp2
      refine wp_loop_rounds 2 ?_; rw [rounds_succ]
      go_wp2_with (at_builtin; go_loud (refine wpList_app rfl (.tmp 35) (.tmp 37) 26 rfl w.heap.size 3 i0 (.int .i64 0) 1 8 und_ints Hi.out Hz0.out Hz1.out Hz2.out rfl (by decide) _ 0 [] rfl (World.ownsRow_nil _ _ _ _) ⟨w.heap.size, 0, none⟩ 1 1 [.int .i64 d] rfl rfl (cell_one_new _ _ _) (by intro q hq; simp at hq; subst hq; rfl) (by unfold maxLen; omega) (by omega) (by simp) ?_; intro v' w9 hown hgr hfr))
      rw [rounds_succ]
      have hb9 : Below w.heap.size w w9 := (below1 _ _).grown hgr (by simp) (fun g hg => by cases hg)
      have hI : Ints w9 v' [(d : Int)] := own_ints (xs := [(d : Int)]) hown (by simp) (by simp; omega)
      obtain ⟨va_, vc, rfl⟩ := own_slice hown
      go_wp2_with (go_at_call 183; refine (trim_one d (by omega) _ _ hI).mono ?_; rintro e w1 ⟨v1, rfl, h1, hb1⟩)
      go_ret
      exact ⟨_, rfl, h1, bthen hb9 hb1⟩
set_option maxRecDepth 100000 in
set_option maxHeartbeats 400000 in
theorem number01 (n : Nat) (hn : n ≤ 9) (v : Value) (w : World) (hv : Ints w v (dg n)) : Calls Tryz.prog 179 #[v] w fun e w' => e = .returned (.string (ns n)) ∧ Below w.heap.size w w' := by
  obtain ⟨i0, hi, hz0, hz1, hz2⟩ := info_parts info_byte
  have Hi := Lib.hid hi; have Hz0 := Lib.hid hz0; have Hz1 := Lib.hid hz1; have Hz2 := Lib.hid hz2
  clear hi hz0 hz1 hz2
  obtain ⟨ao, ac, rfl, _⟩ := hv.1.open
  by_cases h0 : n = 0
  · have e1 : (dg n).length = 0 := by simp [dg, h0]
    rw [e1]
    have hcv := fun w => run_convert_bytes_nil (P := Tryz.prog) (w := w) 177 5 und_bytes und_byte8 0 0 165 und_nat
    subst h0
    clear hv
    go_enter Tryz.func179, Tryz.ntmps179
    go_wp2
    refine wp_loop_rounds 1 ?_; rw [rounds_succ]
    go_wp2_with (go_at_call 180; refine (canon_nil _).mono ?_; rintro e w1 ⟨rfl, rfl⟩)
    go_ret
    exact ⟨rfl, Below.refl _ _⟩
  · rw [dg_pos h0] at *
    obtain ⟨b1, o1, rfl, g1, c1⟩ := hv.1.at (k := 0) (by simp)
    simp only [Nat.zero_mul, Nat.add_zero, List.getD_cons_zero] at c1
    simp only [List.length_singleton] at *
    clear hv
    go_enter Tryz.func179, Tryz.ntmps179
    go_wp2
    refine wp_loop_rounds 2 ?_; rw [rounds_succ]
    go_wp2
    have hm8 : IntKind.u8.wrap (n : Int) = n := by rw [IntKind.wrap_u8]; omega
    have e16 : (n : Int) / 65536 = 0 := by omega
    have e8 : (n : Int) / 256 = 0 := by omega
    go_region_held3 (fun w' => ∀ b o, b < w.heap.size → w'.cell? ⟨b, o, none⟩ = w.cell? ⟨b, o, none⟩) (first | (refine olds ?_; (repeat (first | with_reducible exact Below.refl _ _ | with_reducible assumption | with_reducible refine Below.drew ?_ | with_reducible refine Below.alloc ?_ (by first | omega | (simp; done) | (simp; omega)) _ | with_reducible refine Below.setCell ?_ (by first | omega | (simp; done) | (simp; omega)) _)); done) | exact olds ‹Below w.heap.size w _›) (first | (refine step_append_lies _ (by rfl) _ _ _ (by rfl) w.heap.size 5 i0 _ 1 1 und_bytes Hi.out Hz0.out Hz1.out Hz2.out rfl (by decide) _ 0 [] (by rfl) (World.ownsRow_nil _ _ _ _) ⟨w.heap.size, 0, none⟩ 3 3 [.int .u8 0, .int .u8 0, .int .u8 n] (by rfl) rfl (One.cells (heap_alloc_new _ _)) (by intro u hu; simp at hu; rcases hu with rfl | rfl <;> rfl) (by decide) (by unfold maxLen; omega) (by omega) (by simp) _ rfl ?_; intro g4 cap4 w4 hown4 hgr4 hat4 hgl4; have hb4 : Below w.heap.size w w4 := Below.grown (by repeat (first | with_reducible exact Below.refl _ _ | with_reducible assumption | with_reducible refine Below.drew ?_ | with_reducible refine Below.alloc ?_ (by first | omega | (simp; done) | (simp; omega)) _ | with_reducible refine Below.setCell ?_ (by first | omega | (simp; done) | (simp; omega)) _)) hgr4 (by simp) (fun g hg => by cases hg)))
    have hun : ((n.toUInt8).toNat : Int) = n := by have : (n.toUInt8).toNat = n := by simp [Nat.toUInt8]; omega
                                                   omega
    have hcv := run_convert_bytes_back (P := Tryz.prog) w4 177 165 5 ⟨g4, 0, none⟩ cap4 [0, 0, n.toUInt8] und_bytes und_byte8 und_nat (fun j hj => by
      rw [Addr.add_lit, Nat.zero_add, hown4.cellAt j (by simpa using hj)]
      match j, hj with
      | 0, _ => rfl
      | 1, _ => rfl
      | 2, _ => show some (Value.int .u8 (n : Int)) = some (.int .u8 ((n.toUInt8).toNat : Int)); rw [hun])
    rw [show (⟨([0, 0, n.toUInt8] : List UInt8).toArray⟩ : ByteArray) = pad 2 n by unfold pad; rw [if_neg h0]; rfl, show ([0, 0, n.toUInt8] : List UInt8).length = 3 from rfl] at hcv
    go_wp2
    rw [rounds_succ]
    go_wp2_with (go_at_call 180; refine (canon_pad 2 n h0 (by omega) hn _).mono ?_; rintro e w1 ⟨rfl, rfl⟩)
    go_ret
    exact ⟨rfl, hb4⟩
set_option maxRecDepth 100000 in
set_option maxHeartbeats 400000 in
theorem sub01 (p q : Nat) (hp : p ≤ 9) (hqp : q ≤ p) (w : World) : Calls Tryz.prog 171 #[.string (ns p), .string (ns q)] w fun e w' => e = .returned (.tuple #[.string (ns (p - q)), .bool true]) ∧ Below w.heap.size w w' := by
  have hc : c01 p q = 0 ∨ c01 p q = 1 := by unfold c01; rw [if_neg (by omega)]; split <;> simp
  have h1 := cmp01 p q hp (by omega); have h2 := of01 p hp; have h3 := of01 q (by omega); have h5 := number01 (p - q) (by omega)
  have hn : ¬ (c01 p q < 0) := by omega
  have hz : (dg p).length ≤ 1 ∧ (dg q).length ≤ 1 := by constructor <;> (unfold dg; split <;> simp)
  have hx : ∀ n ≤ 9, ∀ x ∈ dg n, -9223372036854775808 ≤ x ∧ x ≤ 9223372036854775807 := by intro n hn x hx; unfold dg at hx; split at hx <;> simp at hx; omega
  generalize c01 p q = c at *
  have HX := Lib.hid hx
  generalize ns p = P at *
  generalize ns q = Q at *
  generalize ns (p - q) = R at *
  have H1 := Lib.hid h1; have H2 := Lib.hid h2; have H3 := Lib.hid h3; have H5 := Lib.hid h5
  clear h1 h2 h3 h5 hc hx
  go_enter Tryz.func171, Tryz.ntmps171
  go_wp2_with fail
  refine (H1.out _).mono ?_; rintro e w1 ⟨rfl, rfl⟩
  go_wp2_with fail
  refine (H2.out _).mono ?_; rintro e w2 ⟨v2, rfl, ho2, hb2⟩
  obtain ⟨a2, c2, rfl⟩ := own_slice ho2
  go_wp2_with fail
  refine (H3.out _).mono ?_; rintro e w3 ⟨v3, rfl, ho3, hb3⟩
  obtain ⟨a3, c3, rfl⟩ := own_slice ho3
  go_wp2_with fail
  refine (minus01 p q hp hqp _ _ _ (own_ints (own_below ho2 hb3) (by omega) (HX.out p hp)) (own_ints ho3 (by omega) (HX.out q (by omega)))).mono ?_
  rintro e w4 ⟨v4, rfl, h4, hb4⟩
  obtain ⟨a4, c4, rfl, _⟩ := h4.1.open
  go_wp2_with fail
  refine (H5.out _ _ h4).mono ?_; rintro e w5 ⟨rfl, hb5⟩
  go_wp2_with fail
  exact bodyPost_ret (v := .tuple #[.string R, .bool true]) (by simp [results, Tryz.results171, go_sem]) rfl ⟨rfl, bthen (bthen (bthen hb2 hb3) hb4) hb5⟩
end Go.Proofs.YtoiemkifgdnhaaaGreatDoor
namespace Go.Proofs.YtoiemkifgdnhaaaGreatDoor
open Go Go.RowKit
theorem right04 (n : Nat) (hn : n ≤ 9) (w : World) : Calls Tryz.prog 108 #[.agg #[.int .i64 n, .int .i64 0]] w fun e w' => e = .returned (.bool true) ∧ Below w.heap.size w w' := by
  have h1 : (n : Int) ≥ -1000000000000000 := by omega
  have h2 : (n : Int) ≤ 1000000000000000 := by omega
  go_enter Tryz.func108, Tryz.ntmps108
  go_wp2
  go_ret
  refine ⟨?_, below1 _ _⟩
  simp [h1, h2]
theorem natural04 (n : Nat) (hn : n ≤ 9) (w : World) : Calls Tryz.prog 167 #[.int .i64 n] w fun e w' => e = .returned (.string (ns n)) ∧ Below w.heap.size w w' := by
  have h := of_small n hn
  have h0 : (n : Int) ≥ 0 := by omega
  generalize ns n = P at *
  have H := Lib.hid h
  clear h
  go_enter Tryz.func167, Tryz.ntmps167
  go_wp2_with (go_at_call 174; refine (H.out _).mono ?_; rintro e w1 ⟨rfl, hb1⟩)
  go_ret
  exact ⟨rfl, hb1⟩
set_option maxRecDepth 100000 in
set_option maxHeartbeats 400000 in
theorem big04 (n : Nat) (hn : n ≤ 9) (w : World) : Calls Tryz.prog 161 #[.agg #[.int .i64 n, .int .i64 0]] w fun e w' => e = .returned (.agg #[.bool false, .string (ns n), .int .i64 0]) ∧ Below w.heap.size w w' := by
  have h1 := natural04 n hn
  have n0 : ¬ ((n : Int) < 0) := by omega
  generalize ns n = P at *
  have H1 := Lib.hid h1
  clear h1
  go_enter Tryz.func161, Tryz.ntmps161
  go_wp2_with (go_at_call 108; refine (right04 n hn _).mono ?_; rintro e w1 ⟨rfl, hb1⟩)
  have z1 : w.heap.size + 1 < w1.heap.size := by have := hb1.size; simp at this; omega
  have z0 : w.heap.size < w1.heap.size := by omega
  have e0 : w1.cell? ⟨w.heap.size, 0, none⟩ = some (.int .i64 n) := (olds hb1 _ _ (by first | (simp; done) | (simp; omega))).trans (by simp)
  have e1 : w1.cell? ⟨w.heap.size, 1, none⟩ = some (.int .i64 0) := (olds hb1 _ _ (by first | (simp; done) | (simp; omega))).trans (by simp)
  have d0 : w1.cell? ⟨w.heap.size + 1, 0, none⟩ = some (.bool false) := (olds hb1 _ _ (by first | (simp; done) | (simp; omega))).trans (by simp)
  have d1 : w1.cell? ⟨w.heap.size + 1, 1, none⟩ = some (.string ⟨#[]⟩) := (olds hb1 _ _ (by first | (simp; done) | (simp; omega))).trans (by simp)
  have d2 : w1.cell? ⟨w.heap.size + 1, 2, none⟩ = some (.int .i64 0) := (olds hb1 _ _ (by first | (simp; done) | (simp; omega))).trans (by simp)
  have f1 : ∀ o, w1.frozen? ⟨w.heap.size + 1, o, none⟩ = false := fun o => (oldf hb1 _ _ (by first | (simp; done) | (simp; omega))).trans (by simp)
  have hbw := bstep2 (Below.refl w.heap.size w) hb1
  clear hb1
  go_region_held3 (fun w' => w'.cell? ⟨w.heap.size, 0, none⟩ = some (.int .i64 n) ∧ w'.cell? ⟨w.heap.size, 1, none⟩ = some (.int .i64 0))
    (first | exact ⟨e0, e1⟩ | (have hq := olds ‹Below w1.heap.size w1 _›; exact ⟨(hq _ _ z0).trans e0, (hq _ _ z0).trans e1⟩) | (have hq := olds ‹Below w1.heap.size w1 _›; simp only [cset_block (show w.heap.size + 1 ≠ w.heap.size by omega)]; exact ⟨(hq _ _ z0).trans e0, (hq _ _ z0).trans e1⟩))
    (first | (go_at_call 167; refine (H1.out _).mono ?_; rintro e w3 ⟨rfl, hb3'⟩; have hb3 := bdrew hb3'; have hz3 := hb3.size; have hl3 : w.heap.size + 1 < w3.heap.size := (by omega); clear hb3'; have hc3 := olds hb3; have hf3 := oldf hb3))
  go_wp2
  have c0 := (hc3 _ 0 z1).trans d0
  have c1 := (hc3 _ 1 z1).trans d1
  have c2 := (hc3 _ 2 z1).trans d2
  have g1 := fun o => (hf3 _ o z1).trans (f1 o)
  exact bodyPost_ret (v := .agg #[.bool false, .string P, .int .i64 0]) (by simp [results, Tryz.results161, go_sem, c0, c1, c2, g1, n0, hl3]) rfl
    ⟨rfl, (((bthen hbw hb3).setCell (by simp) _).setCell (by simp) _).setCell (by simp) _⟩
set_option maxHeartbeats 400000 in
theorem power04 (w : World) : Calls Tryz.prog 176 #[.int .i64 0] w fun e w' => e = .returned (.string (ns 1)) ∧ Below w.heap.size w w' := by
  have h := of_small 1 (by omega)
  generalize ns 1 = P at *
  have H := Lib.hid h
  clear h
  go_enter Tryz.func176, Tryz.ntmps176
  go_wp2_with (go_at_call 174; refine (H.out _).mono ?_; rintro e w1 ⟨rfl, hb1⟩)
  refine wp_loop_rounds 1 ?_; rw [rounds_succ]
  go_wp2
  go_ret
  exact ⟨rfl, hb1⟩
set_option maxRecDepth 100000 in
set_option maxHeartbeats 400000 in
theorem wider04 (s : Bool) (p : Nat) (hp : p ≤ 9) (w : World) : Calls Tryz.prog 168 #[.agg #[.bool s, .string (ns p), .int .i64 0], .int .i64 0] w fun e w' => e = .returned (.agg #[.bool s, .string (ns p), .int .i64 0]) ∧ Below w.heap.size w w' := by
  have h1 := mul_small p 1 hp (by omega) (by omega)
  have h2 := power04
  rw [Nat.mul_one] at h1
  generalize ns p = P at *
  generalize ns 1 = I at *
  have H1 := Lib.hid h1; have H2 := Lib.hid h2
  clear h1 h2
  go_enter Tryz.func168, Tryz.ntmps168
  go_wp2
  obtain ⟨w1, hw⟩ : ∃ w1, w1 = (w.alloc (.cells #[.bool s, .string P, .int .i64 0] 167)).alloc (.cells #[.bool false, .string ⟨#[]⟩, .int .i64 0] 167) := ⟨_, rfl⟩
  have hbw : Below w.heap.size w w1 := by rw [hw]; exact below2 _ _ _
  have z1 : w.heap.size + 1 < w1.heap.size := by rw [hw]; simp
  have z0 : w.heap.size < w1.heap.size := by omega
  have e0 : w1.cell? ⟨w.heap.size, 0, none⟩ = some (.bool s) := by rw [hw]; simp
  have e1 : w1.cell? ⟨w.heap.size, 1, none⟩ = some (.string P) := by rw [hw]; simp
  have e2 : w1.cell? ⟨w.heap.size, 2, none⟩ = some (.int .i64 0) := by rw [hw]; simp
  have d0 : w1.cell? ⟨w.heap.size + 1, 0, none⟩ = some (.bool false) := by rw [hw]; simp
  have d1 : w1.cell? ⟨w.heap.size + 1, 1, none⟩ = some (.string ⟨#[]⟩) := by rw [hw]; simp
  have d2 : w1.cell? ⟨w.heap.size + 1, 2, none⟩ = some (.int .i64 0) := by rw [hw]; simp
  have f1 : ∀ o, w1.frozen? ⟨w.heap.size + 1, o, none⟩ = false := fun o => by rw [hw]; simp
  rw [← hw]
  clear hw
  go_region_held3 (fun w' => w'.cell? ⟨w.heap.size, 0, none⟩ = some (.bool s) ∧ w'.cell? ⟨w.heap.size, 1, none⟩ = some (.string P) ∧ w'.cell? ⟨w.heap.size, 2, none⟩ = some (.int .i64 0))
    (first | exact ⟨e0, e1, e2⟩ | (have hq := olds ‹Below w1.heap.size w1 _›; exact ⟨(hq _ _ z0).trans e0, (hq _ _ z0).trans e1, (hq _ _ z0).trans e2⟩) | (have hq := olds ‹Below w1.heap.size w1 _›; simp only [cset_block (show w.heap.size + 1 ≠ w.heap.size by omega)]; exact ⟨(hq _ _ z0).trans e0, (hq _ _ z0).trans e1, (hq _ _ z0).trans e2⟩))
    (first | (go_at_call 176; refine (H2.out _).mono ?_; rintro e w2 ⟨rfl, hb2'⟩; have hb2 := bdrew hb2') | (go_at_call 175; refine (H1.out _).mono ?_; rintro e w3 ⟨rfl, hb3'⟩; have hb3 := bthen hb2 hb3'; have hz3 := hb3.size; have hl3 : w.heap.size + 1 < w3.heap.size := (by omega); clear hb2 hb3'; have hc3 := olds hb3; have hf3 := oldf hb3))
  go_wp2
  have c0 := (hc3 _ 0 z1).trans d0
  have c1 := (hc3 _ 1 z1).trans d1
  have c2 := (hc3 _ 2 z1).trans d2
  have g1 := fun o => (hf3 _ o z1).trans (f1 o)
  exact bodyPost_ret (v := .agg #[.bool s, .string P, .int .i64 0]) (by simp [results, Tryz.results168, go_sem, c0, c1, c2, g1, hl3]) rfl
    ⟨rfl, (((bthen hbw hb3).setCell (by simp) _).setCell (by simp) _).setCell (by simp) _⟩
end Go.Proofs.YtoiemkifgdnhaaaGreatDoor
namespace Go.Proofs.YtoiemkifgdnhaaaGreatDoor
open Go Go.RowKit
theorem ns_len (n : Nat) : ((ns n).size : Int) = if n = 0 then 0 else 1 := by
  by_cases h : n = 0
  · simp [h, ns, ByteArray.size]
  · rw [ns_size h, if_neg h]; rfl
/-- Three cells of a block as they stand, and free. -/
structure Tri (w : World) (b : Nat) (u v x : Value) : Prop where
  c0 : w.cell? ⟨b, 0, none⟩ = some u
  c1 : w.cell? ⟨b, 1, none⟩ = some v
  c2 : w.cell? ⟨b, 2, none⟩ = some x
  f : ∀ o, w.frozen? ⟨b, o, none⟩ = false
  lt : b < w.heap.size
theorem Tri.new (w : World) (u v x : Value) (t : TypeId) : Tri (w.alloc (.cells #[u, v, x] t)) w.heap.size u v x := ⟨by simp, by simp, by simp, fun o => by simp, by simp⟩
theorem Tri.mono {w w' : World} {b : Nat} {u v x : Value} (h : Tri w b u v x) (hb : Below w.heap.size w w') : Tri w' b u v x :=
  ⟨(olds hb _ _ h.lt).trans h.c0, (olds hb _ _ h.lt).trans h.c1, (olds hb _ _ h.lt).trans h.c2, fun o => (oldf hb _ o h.lt).trans (h.f o), Nat.lt_of_lt_of_le h.lt hb.size⟩
theorem Tri.set {w : World} {b b' o : Nat} {u v x y : Value} (h : Tri w b u v x) (hn : b' ≠ b) : Tri (w.setCell ⟨b', o, none⟩ y) b u v x :=
  ⟨(cset_block hn).trans h.c0, (cset_block hn).trans h.c1, (cset_block hn).trans h.c2, fun o => (World.frozen?_setCell _ _ _ _).trans (h.f o), by have := h.lt; simp; exact this⟩
set_option maxRecDepth 100000 in
set_option maxHeartbeats 400000 in
theorem plus04 (p q : Nat) (hp : p ≤ 9) (hq : q ≤ 9) (w : World) : Calls Tryz.prog 162 #[.agg #[.bool false, .string (ns p), .int .i64 0], .agg #[.bool true, .string (ns q), .int .i64 0]] w
    fun e w' => e = .returned (.agg #[.bool (decide (p < q)), .string (ns (if p < q then q - p else p - q)), .int .i64 0]) ∧ Below w.heap.size w w' := by
  have h1 := wider04 false p hp; have h2 := wider04 true q hq; have h3 := cmp01 p q hp hq
  have hm : max (0 : Int) 0 = 0 := by decide
  obtain ⟨P, hP⟩ : ∃ P, P = ns p := ⟨_, rfl⟩
  obtain ⟨Q, hQ⟩ : ∃ Q, Q = ns q := ⟨_, rfl⟩
  obtain ⟨R, hR⟩ : ∃ R, R = ns (if p < q then q - p else p - q) := ⟨_, rfl⟩
  obtain ⟨D, hD⟩ : ∃ D, D = decide (p < q) := ⟨_, rfl⟩
  rw [← hP] at h1 h3 ⊢; rw [← hQ] at h2 h3 ⊢; rw [← hR, ← hD]
  have HR := Lib.hid hR; have HD := Lib.hid hD
  have H1 := Lib.hid h1; have H2 := Lib.hid h2; have H3 := Lib.hid h3; have HP := Lib.hid hP; have HQ := Lib.hid hQ
  clear h1 h2 h3 hP hQ hR hD
  go_enter Tryz.func162, Tryz.ntmps162
  go_wp2_with fail
  refine (H1.out _).mono ?_; rintro e w1 ⟨rfl, hb1⟩
  have hbw1 := ((below3 w (.cells #[.bool false, .string P, .int .i64 0] 167) (.cells #[.bool true, .string Q, .int .i64 0] 167) (.cells #[.bool false, .string ⟨#[]⟩, .int .i64 0] 167)).trans (hb1.mono (by simp; omega)))
  have t0 := (((Tri.new w (.bool false) (.string P) (.int .i64 0) 167).mono (below2 _ (.cells #[.bool true, .string Q, .int .i64 0] 167) (.cells #[.bool false, .string ⟨#[]⟩, .int .i64 0] 167))).mono hb1)
  have t1 := (((Tri.new (w.alloc (.cells #[.bool false, .string P, .int .i64 0] 167)) (.bool true) (.string Q) (.int .i64 0) 167).mono (below1 _ (.cells #[.bool false, .string ⟨#[]⟩, .int .i64 0] 167))).mono hb1)
  have t2 := ((Tri.new ((w.alloc (.cells #[.bool false, .string P, .int .i64 0] 167)).alloc (.cells #[.bool true, .string Q, .int .i64 0] 167)) (.bool false) (.string ⟨#[]⟩) (.int .i64 0) 167).mono hb1)
  rw [show (w.alloc (.cells #[.bool false, .string P, .int .i64 0] 167)).heap.size = w.heap.size + 1 by simp] at t1
  rw [show ((w.alloc (.cells #[.bool false, .string P, .int .i64 0] 167)).alloc (.cells #[.bool true, .string Q, .int .i64 0] 167)).heap.size = w.heap.size + 1 + 1 by simp] at t2
  clear hb1
  have a2 := t0.c2; have al := t0.lt
  have b0 := t1.c0; have b1 := t1.c1; have b2 := t1.c2; have bl := t1.lt
  have T2 := Lib.hid t2
  clear t0 t1 t2
  go_wp2_with fail
  refine (H2.out _).mono ?_; rintro e w2 ⟨rfl, hb2⟩
  have x2 := (Tri.new w1 (.bool false) (.string P) (.int .i64 0) 167).mono hb2
  have r2 := (T2.out.mono (below1 w1 (.cells #[.bool false, .string P, .int .i64 0] 167))).mono hb2
  have hbw2 := bstep hbw1 hb2
  have xr : w.heap.size + 1 + 1 < w1.heap.size := T2.out.lt
  have xn : w.heap.size + 1 + 1 ≠ w1.heap.size := by omega
  have xs : w1.heap.size < w2.heap.size := x2.lt
  clear hb2 hbw1 a2 al b0 b1 b2 bl
  have x0 := x2.c0; have x1 := x2.c1; have x2_ := x2.c2; have xl := x2.lt; have xf := x2.f
  have R2 := Lib.hid r2
  have X2 := Lib.hid x2
  clear r2 x2
  go_wp2_with fail
  refine (H3.out _).mono ?_; rintro e w3 ⟨rfl, rfl⟩
  by_cases hlt : p < q
  · have hc : c01 p q = -1 := by unfold c01; rw [if_pos hlt]
    have hsub := sub01 q p hq (by omega)
    have hl := ns_len (q - p)
    rw [if_neg (by omega)] at hl
    have hd : D = true := by rw [HD.out]; simp [hlt]
    have hr := HR.out
    rw [if_pos hlt] at hr
    rw [← HQ.out, ← HP.out, ← hr] at hsub
    rw [← hr] at hl
    rw [hc]
    have HS := Lib.hid hsub
    have HDT := Lib.hid hd
    clear hsub hr hd
    go_wp2_with fail
    refine (HS.out _).mono ?_; rintro e w4 ⟨rfl, hb4⟩
    have r0 := R2.out.c0; have r1 := R2.out.c1; have r2 := R2.out.c2; have rf := R2.out.f; have rl := R2.out.lt
    have xz : w1.heap.size ≠ w.heap.size + 1 + 1 := by omega
    have xw : w.heap.size ≤ w1.heap.size := by omega
    have y0 : w4.cell? ⟨w1.heap.size, 0, none⟩ = some (.bool true) := (olds hb4 _ _ (by simp; omega)).trans (by go_simp)
    have y2 : w4.cell? ⟨w1.heap.size, 2, none⟩ = some (.int .i64 0) := (olds hb4 _ _ (by simp; omega)).trans (by go_simp)
    have tr := (((((R2.out.set (o := 0) (y := .bool true) xz).set (o := 1) (y := .string Q) xz).set (o := 2) (y := .int .i64 0) xz).mono (below2 _ _ _)).mono hb4)
    have s0 := tr.c0; have s1 := tr.c1; have s2 := tr.c2; have sf := tr.f
    have sl : w.heap.size + 1 + 1 < w4.heap.size := Nat.lt_of_lt_of_le (show _ < _ by simp; omega) hb4.size
    have yl : w1.heap.size < w4.heap.size := Nat.lt_of_lt_of_le (show _ < _ by simp; omega) hb4.size
    have hbw4 : Below w.heap.size w w4 := (((((hbw2.setCell (by simp; omega) _).setCell (by simp; omega) _).setCell (by simp; omega) _).alloc (by simp; omega) _).alloc (by simp; omega) _).trans (hb4.mono (by simp; omega))
    clear hb4 x0 x1 x2_ xl xf r0 r1 r2 rf rl tr
    go_wp2_with fail
    refine bodyPost_ret (v := .agg #[.bool D, .string R, .int .i64 0]) ?_ rfl ⟨rfl, ((hbw4.setCell (by simp; omega) _).setCell (by simp; omega) _).setCell (by simp; omega) _⟩
    have hd := HDT.out
    simp [results, Tryz.results162, go_sem, s0, s1, s2, sf, sl, hd]
  · have hc : ¬ (c01 p q < 0) := by unfold c01; rw [if_neg hlt]; split <;> omega
    have hsub := sub01 p q hp (by omega)
    have hd : D = false := by rw [HD.out]; simp [hlt]
    have hr := HR.out
    rw [if_neg hlt] at hr
    rw [← HQ.out, ← HP.out, ← hr] at hsub
    generalize c01 p q = c at *
    have HS := Lib.hid hsub
    have HDT := Lib.hid hd
    clear hsub hr hd
    go_wp2_with fail
    refine (HS.out _).mono ?_; rintro e w4 ⟨rfl, hb4⟩
    have r0 := R2.out.c0; have r1 := R2.out.c1; have r2 := R2.out.c2; have rf := R2.out.f; have rl := R2.out.lt
    have xz : w1.heap.size ≠ w.heap.size + 1 + 1 := by omega
    have xw : w.heap.size ≤ w1.heap.size := by omega
    have y0 : w4.cell? ⟨w1.heap.size, 0, none⟩ = some (.bool false) := (olds hb4 _ _ (by simp; omega)).trans (by go_simp)
    have y2 : w4.cell? ⟨w1.heap.size, 2, none⟩ = some (.int .i64 0) := (olds hb4 _ _ (by simp; omega)).trans (by go_simp)
    have s0 : w4.cell? ⟨w.heap.size + 1 + 1, 0, none⟩ = some (.bool false) := (olds hb4 _ _ (by simp; omega)).trans (by go_simp)
    have s1 : w4.cell? ⟨w.heap.size + 1 + 1, 1, none⟩ = some (.string ⟨#[]⟩) := (olds hb4 _ _ (by simp; omega)).trans (by go_simp)
    have s2 : w4.cell? ⟨w.heap.size + 1 + 1, 2, none⟩ = some (.int .i64 0) := (olds hb4 _ _ (by simp; omega)).trans (by go_simp)
    have sf : ∀ o, w4.frozen? ⟨w.heap.size + 1 + 1, o, none⟩ = false := fun o => (oldf hb4 _ _ (by simp; omega)).trans (by go_simp)
    have sl : w.heap.size + 1 + 1 < w4.heap.size := Nat.lt_of_lt_of_le (show _ < _ by simp; omega) hb4.size
    have yl : w1.heap.size < w4.heap.size := Nat.lt_of_lt_of_le (show _ < _ by simp; omega) hb4.size
    have hbw4 : Below w.heap.size w w4 := (hbw2.alloc hbw2.size _).trans (hb4.mono (by simp; omega))
    clear hb4 x0 x1 x2_ xl xf r0 r1 r2 rf rl
    go_wp2_with fail
    refine bodyPost_ret (v := .agg #[.bool D, .string R, .int .i64 0]) ?_ rfl ⟨rfl, ((hbw4.setCell (by simp; omega) _).setCell (by simp; omega) _).setCell (by simp; omega) _⟩
    have hd := HDT.out
    simp [results, Tryz.results162, go_sem, s0, s1, s2, sf, sl, hd]
theorem cmp04_zero (p q : Nat) : (if p < q then q - p else p - q) = 0 ↔ p = q := by split <;> omega
set_option maxRecDepth 100000 in
set_option maxHeartbeats 400000 in
theorem cmp04 (p q : Nat) (hp : p ≤ 9) (hq : q ≤ 9) (w : World) : Calls Tryz.prog 140 #[.agg #[.int .i64 p, .int .i64 0], .agg #[.int .i64 q, .int .i64 0]] w fun e w' => e = .returned (.int .i64 (c01 p q)) ∧ Below w.heap.size w w' := by
  have h1 := big04 p hp; have h2 := big04 q hq; have h3 := plus04 p q hp hq
  have hl := ns_len (if p < q then q - p else p - q)
  rw [show (if (if p < q then q - p else p - q) = 0 then (0 : Int) else 1) = if p = q then 0 else 1 by simp only [cmp04_zero]] at hl
  generalize ns (if p < q then q - p else p - q) = R at *
  generalize ns p = P at *
  generalize ns q = Q at *
  obtain ⟨c, hc⟩ : ∃ c, c = c01 p q := ⟨_, rfl⟩
  obtain ⟨D, hD⟩ : ∃ D, D = decide (p < q) := ⟨_, rfl⟩
  rw [← hc]
  rw [← hD] at h3
  have H1 := Lib.hid h1; have H2 := Lib.hid h2; have H3 := Lib.hid h3; have HC := Lib.hid hc; have HD := Lib.hid hD; have HL := Lib.hid hl
  clear h1 h2 h3 hc hD hl
  go_enter Tryz.func140, Tryz.ntmps140
  go_wp2_with fail
  refine (H1.out _).mono ?_; rintro e w1 ⟨rfl, hb1⟩
  have hbw1 : Below w.heap.size w w1 := bstep2 (Below.refl _ _) hb1
  have e0 : w1.cell? ⟨w.heap.size + 1, 0, none⟩ = some (.int .i64 q) := (olds hb1 _ _ (by first | (simp; done) | (simp; omega))).trans (by simp)
  have e1 : w1.cell? ⟨w.heap.size + 1, 1, none⟩ = some (.int .i64 0) := (olds hb1 _ _ (by first | (simp; done) | (simp; omega))).trans (by simp)
  have z0 : w.heap.size + 1 < w1.heap.size := Nat.lt_of_lt_of_le (by simp) hb1.size
  clear hb1
  go_wp2_with fail
  refine (H2.out _).mono ?_; rintro e w2 ⟨rfl, hb2⟩
  have x := (Tri.new w1 (.bool false) (.string P) (.int .i64 0) 167).mono hb2
  have x0 := x.c0; have x1 := x.c1; have x2 := x.c2; have xl := x.lt
  have hbw2 := bstep hbw1 hb2
  clear hb2 e0 e1 z0 hbw1
  go_wp2_with fail
  refine (H3.out _).mono ?_; rintro e w3 ⟨rfl, hb3⟩
  have hbw3 := bstep hbw2 hb3
  clear hb3 x x0 x1 x2 xl hbw2
  rcases Nat.lt_trichotomy p q with h | h | h
  · have hl : ((R.size : Int) == 0) = false := by rw [HL.out, if_neg (by omega)]; rfl
    have hd : D = true := by rw [HD.out]; simp [h]
    have hc : c = -1 := by rw [HC.out]; unfold c01; rw [if_pos h]
    go_wp2_with fail
    go_ret
    exact ⟨by rw [hc]; rfl, hbw3.alloc hbw3.size _⟩
  · have hl : ((R.size : Int) == 0) = true := by rw [HL.out, if_pos h]; rfl
    have hc : c = 0 := by rw [HC.out]; unfold c01; rw [if_neg (by omega), if_neg (by omega)]
    go_wp2_with fail
    go_ret
    exact ⟨by rw [hc]; rfl, hbw3.alloc hbw3.size _⟩
  · have hl : ((R.size : Int) == 0) = false := by rw [HL.out, if_neg (by omega)]; rfl
    have hd : D = false := by rw [HD.out]; simp; omega
    have hc : c = 1 := by rw [HC.out]; unfold c01; rw [if_neg (by omega), if_pos h]
    go_wp2_with fail
    go_ret
    exact ⟨by rw [hc]; rfl, hbw3.alloc hbw3.size _⟩
end Go.Proofs.YtoiemkifgdnhaaaGreatDoor
namespace Go.Proofs.YtoiemkifgdnhaaaGreatDoor
open Go Go.RowKit
/-- A value with its fields. -/
@[reducible] def vf (k : Int) (s : ByteArray) (d i : Int) (c : Option Addr) (m : Nat) : Value := .agg #[.int .i64 k, .string s, .int .i64 d, .int .i64 0, .int .i64 i, .slice c 0 m, .slice none 0 0]
theorem va_vf {x : Nat} {k d i : Int} {s : ByteArray} (h1 : kd x = k) (h2 : st x = s) (h3 : dn x = d) (h4 : nn x = i) (c : Option Addr) (m : Nat) : va x c m = vf k s d i c m := by rw [va, h1, h2, h3, h4]
def SelfEq (k : Int) (s : ByteArray) (d i : Int) (c : Option Addr) (m : Nat) : Prop := ∀ w, Calls Tryz.prog 29 #[vf k s d i c m, vf k s d i none 0] w fun e w' => e = .returned (.bool true) ∧ Below w.heap.size w w'
theorem self_eq {x : Nat} (hx : x ≤ 10) {k d i : Int} {s : ByteArray} (h1 : kd x = k) (h2 : st x = s) (h3 : dn x = d) (h4 : nn x = i) (c : Option Addr) (m : Nat) : SelfEq k s d i c m := by
  intro w
  have := equal06 x x c none m 0 w hx hx
  rw [va_vf h1 h2 h3 h4, va_vf h1 h2 h3 h4, beq_self_eq_true] at this
  exact this
/-- The cells of a value as they stand. -/
structure Sev (w : World) (b : Nat) (k : Int) (s : ByteArray) (d i : Int) (c : Option Addr) (m : Nat) : Prop where
  c0 : w.cell? ⟨b, 0, none⟩ = some (.int .i64 k)
  c1 : w.cell? ⟨b, 1, none⟩ = some (.string s)
  c2 : w.cell? ⟨b, 2, none⟩ = some (.int .i64 d)
  c3 : w.cell? ⟨b, 3, none⟩ = some (.int .i64 0)
  c4 : w.cell? ⟨b, 4, none⟩ = some (.int .i64 i)
  c5 : w.cell? ⟨b, 5, none⟩ = some (.slice c 0 m)
  c6 : w.cell? ⟨b, 6, none⟩ = some (.slice none 0 0)
  lt : b < w.heap.size
theorem Sev.new (w : World) (k : Int) (s : ByteArray) (d i : Int) (c : Option Addr) (m : Nat) (t : TypeId) : Sev (w.alloc (.cells #[.int .i64 k, .string s, .int .i64 d, .int .i64 0, .int .i64 i, .slice c 0 m, .slice none 0 0] t)) w.heap.size k s d i c m := ⟨by simp, by simp, by simp, by simp, by simp, by simp, by simp, by simp⟩
theorem Sev.mono {w w' : World} {b : Nat} {k : Int} {s : ByteArray} {d i : Int} {c : Option Addr} {m : Nat} (h : Sev w b k s d i c m) (hb : Below w.heap.size w w') : Sev w' b k s d i c m :=
  ⟨(olds hb _ _ h.lt).trans h.c0, (olds hb _ _ h.lt).trans h.c1, (olds hb _ _ h.lt).trans h.c2, (olds hb _ _ h.lt).trans h.c3, (olds hb _ _ h.lt).trans h.c4, (olds hb _ _ h.lt).trans h.c5, (olds hb _ _ h.lt).trans h.c6, Nat.lt_of_lt_of_le h.lt hb.size⟩
def Yes (b : Bool) (w : World) (e : Ending) (w' : World) : Prop := e = .returned (.bool b) ∧ Below w.heap.size w w'
set_option maxRecDepth 100000 in
theorem plain06 (a : UInt8) (ha : a = 97 ∨ a = 98) (w : World) : Calls Tryz.prog 107 #[.string ⟨#[a]⟩] w fun e w' => e = .returned (.bool true) ∧ w' = w := by
  rcases ha with rfl | rfl
  all_goals
    go_enter Tryz.func107, Tryz.ntmps107
    go_wp2
    refine wp_loop_rounds 2 ?_; rw [rounds_succ]
    go_wp2
    rw [rounds_succ]
    go_wp2
    go_ret
    exact ⟨rfl, rfl⟩
set_option maxRecDepth 100000 in
set_option maxHeartbeats 400000 in
theorem right06_none (i : Int) (h0 : 0 ≤ i) (h9 : i ≤ 99) (c : Option Addr) (m : Nat) (hE : SelfEq 0 ⟨#[]⟩ 0 i c m) (w : World) : Calls Tryz.prog 82 #[vf 0 ⟨#[]⟩ 0 i c m] w (Yes true w) := by
  have HE := Lib.hid hE
  clear hE
  go_enter Tryz.func82, Tryz.ntmps82
  go_wp2_with fail
  refine (HE.out _).mono ?_; rintro e w1 ⟨rfl, hb1⟩
  go_wp2_with fail
  go_ret
  exact ⟨rfl, bstep2 (Below.refl _ _) hb1⟩
set_option maxRecDepth 100000 in
set_option maxHeartbeats 400000 in
theorem right06_bool (c : Option Addr) (m : Nat) (hE : SelfEq 4 ⟨#[]⟩ 0 1 c m) (w : World) : Calls Tryz.prog 82 #[vf 4 ⟨#[]⟩ 0 1 c m] w (Yes true w) := by
  have HE := Lib.hid hE
  clear hE
  go_enter Tryz.func82, Tryz.ntmps82
  go_wp2_with fail
  refine (HE.out _).mono ?_; rintro e w1 ⟨rfl, hb1⟩
  go_wp2_with fail
  go_ret
  exact ⟨rfl, bstep2 (Below.refl _ _) hb1⟩
set_option maxRecDepth 100000 in
set_option maxHeartbeats 400000 in
theorem right06_ten (c : Option Addr) (m : Nat) (w : World) : Calls Tryz.prog 82 #[vf 9 ⟨#[]⟩ 0 0 c m] w (Yes false w) := by
  go_enter Tryz.func82, Tryz.ntmps82
  go_wp2_with fail
  go_ret
  exact ⟨rfl, below2 _ _ _⟩
set_option maxRecDepth 100000 in
set_option maxHeartbeats 400000 in
theorem right06_num (d : Nat) (h9 : d ≤ 9) (c : Option Addr) (m : Nat) (hE : SelfEq 2 ⟨#[]⟩ d 0 c m) (w : World) : Calls Tryz.prog 82 #[vf 2 ⟨#[]⟩ d 0 c m] w (Yes true w) := by
  have HE := Lib.hid hE
  clear hE
  go_enter Tryz.func82, Tryz.ntmps82
  go_wp2_with fail
  refine (right04 d h9 _).mono ?_; rintro e w1 ⟨rfl, hb1⟩
  have s1 := ((Sev.new w 2 ⟨#[]⟩ d 0 c m 47).mono (below1 _ _)).mono hb1
  have s2 := (Sev.new _ 2 ⟨#[]⟩ d 0 none 0 47).mono hb1
  have hbw := bstep2 (Below.refl _ _) hb1
  have e1 : ∀ o : Obj, (w.alloc o).heap.size = w.heap.size + 1 := fun o => by simp
  rw [e1] at s2
  obtain ⟨a0, a1, a2, a3, a4, a5, a6, al⟩ := s1
  obtain ⟨b0, b1, b2, b3, b4, b5, b6, bl⟩ := s2
  clear hb1
  go_wp2_with fail
  refine (HE.out _).mono ?_; rintro e w2 ⟨rfl, hb2⟩
  go_wp2_with fail
  go_ret
  exact ⟨rfl, bthen hbw hb2⟩
set_option maxRecDepth 100000 in
set_option maxHeartbeats 400000 in
theorem right06_text (a : UInt8) (ha : a = 97 ∨ a = 98) (c : Option Addr) (m : Nat) (hE : SelfEq 1 ⟨#[a]⟩ 0 0 c m) (w : World) : Calls Tryz.prog 82 #[vf 1 ⟨#[a]⟩ 0 0 c m] w (Yes true w) := by
  have HE := Lib.hid hE
  clear hE
  have hp := plain06 a ha
  generalize (⟨#[a]⟩ : ByteArray) = S at *
  have HP := Lib.hid hp
  clear hp ha
  go_enter Tryz.func82, Tryz.ntmps82
  go_wp2_with fail
  refine (HP.out _).mono ?_; rintro e w1 ⟨rfl, rfl⟩
  go_wp2_with fail
  refine (HE.out _).mono ?_; rintro e w2 ⟨rfl, hb2⟩
  go_wp2_with fail
  go_ret
  refine ⟨rfl, ?_⟩
  exact bstep2 (Below.refl _ _) hb2
theorem le10 {x : Nat} (h : x ≤ 10) : x = 0 ∨ x = 1 ∨ x = 2 ∨ x = 3 ∨ x = 4 ∨ x = 5 ∨ x = 6 ∨ x = 7 ∨ x = 8 ∨ x = 9 ∨ x = 10 := by omega
/-- Right, by the reference. -/
theorem right06 (x : Nat) (hx : x ≤ 10) (c : Option Addr) (m : Nat) (w : World) : Calls Tryz.prog 82 #[va x c m] w (Yes (decide (x ≤ 9)) w) := by
  have hE := fun (k d i : Int) (s : ByteArray) (h1 : kd x = k) (h2 : st x = s) (h3 : dn x = d) (h4 : nn x = i) => self_eq hx h1 h2 h3 h4 c m
  rcases le10 hx with rfl | rfl | rfl | rfl | rfl | rfl | rfl | rfl | rfl | rfl | rfl
  · exact right06_none 0 (by omega) (by omega) c m (hE 0 0 0 ⟨#[]⟩ rfl rfl rfl rfl) w
  · exact right06_none 18 (by omega) (by omega) c m (hE 0 0 18 ⟨#[]⟩ rfl rfl rfl rfl) w
  · exact right06_text 97 (.inl rfl) c m (hE 1 0 0 ⟨#[97]⟩ rfl rfl rfl rfl) w
  · exact right06_text 98 (.inr rfl) c m (hE 1 0 0 ⟨#[98]⟩ rfl rfl rfl rfl) w
  · exact right06_num 1 (by omega) c m (hE 2 1 0 ⟨#[]⟩ rfl rfl rfl rfl) w
  · exact right06_num 2 (by omega) c m (hE 2 2 0 ⟨#[]⟩ rfl rfl rfl rfl) w
  · exact right06_num 3 (by omega) c m (hE 2 3 0 ⟨#[]⟩ rfl rfl rfl rfl) w
  · exact right06_num 5 (by omega) c m (hE 2 5 0 ⟨#[]⟩ rfl rfl rfl rfl) w
  · exact right06_num 7 (by omega) c m (hE 2 7 0 ⟨#[]⟩ rfl rfl rfl rfl) w
  · exact right06_bool c m (hE 4 0 1 ⟨#[]⟩ rfl rfl rfl rfl) w
  · exact right06_ten c m w
end Go.Proofs.YtoiemkifgdnhaaaGreatDoor
namespace Go.Proofs.YtoiemkifgdnhaaaGreatDoor
open Go Go.RowKit
def textS (l e : Bool) : Int := if l then -1 else if e then 0 else 1
set_option maxRecDepth 100000 in
theorem text06 (S T : ByteArray) (l e : Bool) (hl : Op.bytesLess S.toList T.toList = l) (he : (S.toList == T.toList) = e) (w : World) : Calls Tryz.prog 139 #[.string S, .string T] w fun en w' => en = .returned (.int .i64 (textS l e)) ∧ w' = w := by
  cases l <;> cases e
  all_goals
    go_enter Tryz.func139, Tryz.ntmps139
    go_wp2
    go_ret
    exact ⟨rfl, rfl⟩
def CmpPost (n : Int) (w : World) (e : Ending) (w' : World) : Prop := e = .returned (.int .i64 n) ∧ Below w.heap.size w w'
section
variable (c c' : Option Addr) (m m' : Nat) (w : World)
set_option maxRecDepth 100000 in
set_option maxHeartbeats 400000 in
theorem cmp06_kind (k k' d d' i i' : Int) (s s' : ByteArray) (hk : 0 ≤ k ∧ k ≤ 9) (hk' : 0 ≤ k' ∧ k' ≤ 9) (hne : k ≠ k') : Calls Tryz.prog 110 #[vf k s d i c m, vf k' s' d' i' c' m'] w (CmpPost (k - k') w) := by
  have hn : (k != k') = true := by simp [hne]
  have hw : wrap64 (k - k') = k - k' := by unfold wrap64; omega
  clear hne
  go_enter Tryz.func110, Tryz.ntmps110
  go_wp2_with fail
  go_ret
  exact ⟨by simp [hw], below2 _ _ _⟩
set_option maxRecDepth 100000 in
set_option maxHeartbeats 400000 in
theorem cmp06_none (k i i' : Int) (hk : k = 0 ∨ k = 4) (hi : 0 ≤ i ∧ i ≤ 99) (hi' : 0 ≤ i' ∧ i' ≤ 99) : Calls Tryz.prog 110 #[vf k ⟨#[]⟩ 0 i c m, vf k ⟨#[]⟩ 0 i' c' m'] w (CmpPost (i - i') w) := by
  have hw : wrap64 (i - i') = i - i' := by unfold wrap64; omega
  rcases hk with rfl | rfl
  all_goals
    go_enter Tryz.func110, Tryz.ntmps110
    go_wp2_with fail
    go_ret
    exact ⟨by simp [hw], below2 _ _ _⟩
set_option maxRecDepth 100000 in
set_option maxHeartbeats 400000 in
theorem cmp06_text (S T : ByteArray) (l e : Bool) (hl : Op.bytesLess S.toList T.toList = l) (he : (S.toList == T.toList) = e) : Calls Tryz.prog 110 #[vf 1 S 0 0 c m, vf 1 T 0 0 c' m'] w (CmpPost (textS l e) w) := by
  have ht := text06 S T l e hl he
  have HT := Lib.hid ht
  clear ht hl he
  go_enter Tryz.func110, Tryz.ntmps110
  go_wp2_with fail
  refine (HT.out _).mono ?_; rintro en w1 ⟨rfl, rfl⟩
  go_wp2_with fail
  go_ret
  exact ⟨rfl, below2 _ _ _⟩
set_option maxRecDepth 100000 in
set_option maxHeartbeats 400000 in
theorem cmp06_num (p q : Nat) (hp : p ≤ 9) (hq : q ≤ 9) : Calls Tryz.prog 110 #[vf 2 ⟨#[]⟩ p 0 c m, vf 2 ⟨#[]⟩ q 0 c' m'] w (CmpPost (c01 p q) w) := by
  have ht := cmp04 p q hp hq
  have HT := Lib.hid ht
  clear ht
  go_enter Tryz.func110, Tryz.ntmps110
  go_wp2_with fail
  refine (HT.out _).mono ?_; rintro en w1 ⟨rfl, hb1⟩
  go_wp2_with fail
  go_ret
  exact ⟨rfl, bstep2 (Below.refl _ _) hb1⟩
end
def cls : Nat → Nat
  | 0 | 1 => 0 | 2 | 3 => 1 | 4 | 5 | 6 | 7 | 8 => 2 | _ => 3
set_option synthInstance.maxSize 4000 in
theorem cmp06 (x y : Nat) (hx : x ≤ 9) (hy : y ≤ 9) (c c' : Option Addr) (m m' : Nat) (w : World) : Calls Tryz.prog 110 #[va x c m, va y c' m'] w fun e w' => ∃ n, e = .returned (.int .i64 n) ∧ decide (n < 0) = decide (x < y) ∧ Below w.heap.size w w' := by
  have fin : ∀ n : Int, decide (n < 0) = decide (x < y) → Calls Tryz.prog 110 #[va x c m, va y c' m'] w (CmpPost n w) → Calls Tryz.prog 110 #[va x c m, va y c' m'] w fun e w' => ∃ n, e = .returned (.int .i64 n) ∧ decide (n < 0) = decide (x < y) ∧ Below w.heap.size w w' :=
    fun n h hc => hc.mono fun e w' h' => ⟨n, h'.1, h, h'.2⟩
  by_cases hk : kd x = kd y
  · have key : ∀ x < 10, ∀ y < 10, kd x = kd y → (x ≤ 1 ∧ y ≤ 1 ∨ x = 9 ∧ y = 9) ∧ decide (nn x - nn y < 0) = decide (x < y) ∨ (x = 2 ∨ x = 3) ∧ (y = 2 ∨ y = 3) ∨ 4 ≤ x ∧ x ≤ 8 ∧ 4 ≤ y ∧ y ≤ 8 ∧ decide (c01 (dn x).toNat (dn y).toNat < 0) = decide (x < y) := of_decide_eq_true (by kernel_rfl)
    have bnd : ∀ x < 10, 0 ≤ nn x ∧ nn x ≤ 99 ∧ 0 ≤ dn x ∧ dn x ≤ 9 := of_decide_eq_true (by kernel_rfl)
    have e9 : ∀ x < 10, (x ≤ 1 → kd x = 0 ∧ st x = ⟨#[]⟩ ∧ dn x = 0) ∧ (x = 9 → kd x = 4 ∧ st x = ⟨#[]⟩ ∧ dn x = 0) ∧ (4 ≤ x ∧ x ≤ 8 → kd x = 2 ∧ st x = ⟨#[]⟩ ∧ nn x = 0) := of_decide_eq_true (by kernel_rfl)
    have bx := bnd x (by omega); have by_ := bnd y (by omega)
    rcases key x (by omega) y (by omega) hk with ⟨h1, h2⟩ | ⟨h1, h2⟩ | ⟨h1, h2, h3, h4, h5⟩
    · refine fin _ h2 ?_
      rcases h1 with ⟨h1, h3⟩ | ⟨h1, h3⟩
      · obtain ⟨a1, a2, a3⟩ := (e9 x (by omega)).1 h1
        obtain ⟨b1, b2, b3⟩ := (e9 y (by omega)).1 h3
        rw [va_vf a1 a2 a3 rfl, va_vf b1 b2 b3 rfl]
        exact cmp06_none c c' m m' w 0 (nn x) (nn y) (.inl rfl) ⟨bx.1, bx.2.1⟩ ⟨by_.1, by_.2.1⟩
      · obtain ⟨a1, a2, a3⟩ := (e9 x (by omega)).2.1 h1
        obtain ⟨b1, b2, b3⟩ := (e9 y (by omega)).2.1 h3
        rw [va_vf a1 a2 a3 rfl, va_vf b1 b2 b3 rfl]
        exact cmp06_none c c' m m' w 4 (nn x) (nn y) (.inr rfl) ⟨bx.1, bx.2.1⟩ ⟨by_.1, by_.2.1⟩
    · rcases h1 with rfl | rfl <;> rcases h2 with rfl | rfl
      · exact fin 0 (by decide) (cmp06_text c c' m m' w ⟨#[97]⟩ ⟨#[97]⟩ false true (by kernel_rfl) (by kernel_rfl))
      · exact fin (-1) (by decide) (cmp06_text c c' m m' w ⟨#[97]⟩ ⟨#[98]⟩ true false (by kernel_rfl) (by kernel_rfl))
      · exact fin 1 (by decide) (cmp06_text c c' m m' w ⟨#[98]⟩ ⟨#[97]⟩ false false (by kernel_rfl) (by kernel_rfl))
      · exact fin 0 (by decide) (cmp06_text c c' m m' w ⟨#[98]⟩ ⟨#[98]⟩ false true (by kernel_rfl) (by kernel_rfl))
    · refine fin _ h5 ?_
      obtain ⟨a1, a2, a3⟩ := (e9 x (by omega)).2.2 ⟨h1, h2⟩
      obtain ⟨b1, b2, b3⟩ := (e9 y (by omega)).2.2 ⟨h3, h4⟩
      have := cmp06_num c c' m m' w (dn x).toNat (dn y).toNat (by omega) (by omega)
      rw [Int.toNat_of_nonneg bx.2.2.1, Int.toNat_of_nonneg by_.2.2.1] at this
      rw [va_vf a1 a2 rfl a3, va_vf b1 b2 rfl b3]
      exact this
  · have key : ∀ x < 10, ∀ y < 10, kd x ≠ kd y → decide (kd x - kd y < 0) = decide (x < y) ∧ (0 ≤ kd x ∧ kd x ≤ 9) ∧ (0 ≤ kd y ∧ kd y ≤ 9) := of_decide_eq_true (by kernel_rfl)
    obtain ⟨h1, h2, h3⟩ := key x (by omega) y (by omega) hk
    exact fin _ h1 (cmp06_kind c c' m m' w (kd x) (kd y) (dn x) (dn y) (nn x) (nn y) (st x) (st y) h2 h3 hk)
set_option maxRecDepth 100000 in
set_option maxHeartbeats 400000 in
theorem less06 (x y : Nat) (hx : x ≤ 10) (hy : y ≤ 10) (c c' : Option Addr) (m m' : Nat) (w : World) : Calls Tryz.prog 83 #[va x c m, va y c' m'] w (Yes (decide (x < y)) w) := by
  have h1 := right06 x hx c m; have h2 := right06 y hy c' m'
  have h3 := fun a b => cmp06 x y a b c c' m m'
  obtain ⟨rx, hrx⟩ : ∃ b, b = decide (x ≤ 9) := ⟨_, rfl⟩
  obtain ⟨ry, hry⟩ : ∃ b, b = decide (y ≤ 9) := ⟨_, rfl⟩
  obtain ⟨lt, hlt⟩ : ∃ b, b = decide (x < y) := ⟨_, rfl⟩
  rw [← hrx] at h1; rw [← hry] at h2; rw [← hlt] at h3 ⊢
  have H1 := Lib.hid h1; have H2 := Lib.hid h2; have H3 := Lib.hid h3
  have HX := Lib.hid hrx; have HY := Lib.hid hry; have HLT := Lib.hid hlt
  clear h1 h2 h3 hrx hry hlt
  show Calls _ _ #[vf (kd x) (st x) (dn x) (nn x) c m, vf (kd y) (st y) (dn y) (nn y) c' m'] w _
  go_enter Tryz.func83, Tryz.ntmps83
  go_wp2_with fail
  refine (H1.out _).mono ?_; rintro e w1 ⟨rfl, hb1⟩
  have s2 := (Sev.new (w.alloc (.cells #[.int .i64 (kd x), .string (st x), .int .i64 (dn x), .int .i64 0, .int .i64 (nn x), .slice c 0 m, .slice none 0 0] 47)) (kd y) (st y) (dn y) (nn y) c' m' 47).mono hb1
  have s1 := ((Sev.new w (kd x) (st x) (dn x) (nn x) c m 47).mono (below1 _ _)).mono hb1
  have hbw := bstep2 (Below.refl _ _) hb1
  have e1 : ∀ o : Obj, (w.alloc o).heap.size = w.heap.size + 1 := fun o => by simp
  rw [e1] at s2
  have S1 := Lib.hid s1
  have S2 := Lib.hid s2
  obtain ⟨b0, b1, b2, b3, b4, b5, b6, bl⟩ := s2
  clear hb1 s1
  go_wp2_with fail
  refine (H2.out _).mono ?_; rintro e w2 ⟨rfl, hb2⟩
  have hbw2 := bthen hbw hb2
  obtain ⟨a0, a1, a2, a3, a4, a5, a6, al⟩ := S1.out.mono hb2
  clear b0 b1 b2 b3 b4 b5 b6 bl
  obtain ⟨b0, b1, b2, b3, b4, b5, b6, bl⟩ := S2.out.mono hb2
  clear hb2 hbw
  by_cases hx9 : x ≤ 9
  · have er : rx = true := by rw [HX.out]; simp [hx9]
    by_cases hy9 : y ≤ 9
    · have er2 : ry = true := by rw [HY.out]; simp [hy9]
      go_wp2_with fail
      refine (H3.out hx9 hy9 _).mono ?_; rintro e w3 ⟨n, rfl, hn, hb3⟩
      go_wp2_with fail
      go_ret
      exact ⟨by rw [← hn]; rfl, bthen hbw2 hb3⟩
    · have er2 : ry = false := by rw [HY.out]; simp; omega
      have e3 : lt = true := by rw [HLT.out]; simp; omega
      go_wp2_with fail
      go_ret
      exact ⟨by rw [e3]; rfl, hbw2⟩
  · have er : rx = false := by rw [HX.out]; simp; omega
    have e3 : lt = false := by rw [HLT.out]; simp; omega
    go_wp2_with fail
    go_ret
    exact ⟨by rw [e3]; rfl, hbw2⟩
end Go.Proofs.YtoiemkifgdnhaaaGreatDoor
namespace Go.Proofs.YtoiemkifgdnhaaaGreatDoor
open Go Go.RowKit
theorem Inputs_call (w : World) (a : Value) (A : List (List Nat)) (ha : ValRows w a A) : Calls Tryz.prog 16 #[a] w fun e w' => e = .returned (.int .i64 (inputsS A)) ∧ w' = w := by
  have HA := Lib.hid ha
  obtain ⟨ao, ac, rfl, ha1⟩ := ha.1.open
  have ha2 := ha.2
  clear ha
  by_cases h0 : A.length = 0
  · have e0 : ((A.length : Int) == 0) = true := by simp [h0]
    go_enter Tryz.func16, Tryz.ntmps16
    go_wp2
    go_ret
    refine ⟨?_, rfl⟩
    have : A = [] := List.eq_nil_of_length_eq_zero h0
    subst this; rfl
  · have e0 : ((A.length : Int) == 0) = false := by rw [beq_eq_false_iff_ne]; omega
    have e1 : (0 : Int) < A.length := by omega
    obtain ⟨b2, o2, rfl, g2, ra0, rc0, q0, q1⟩ := HA.out.1.at (show 0 < A.length by omega)
    have hin : (A.getD 0 []).length = inputsS A := by cases A <;> simp [inputsS]
    rw [hin] at q0
    simp only [Nat.zero_mul, Nat.add_zero] at q0
    clear q1 hin
    go_enter Tryz.func16, Tryz.ntmps16
    go_wp2
    go_ret
    exact ⟨rfl, rfl⟩
set_option maxRecDepth 100000 in
set_option maxHeartbeats 400000 in
theorem Right_call (w : World) (a : Value) (A : List (List Nat)) (ha : ValRows w a A) : Calls Tryz.prog 54 #[a] w (Yes (rightS A) w) := by
  have HA := Lib.hid ha
  obtain ⟨ao, ac, rfl, ha1⟩ := ha.1.open
  have ha2 := ha.2
  clear ha
  go_enter Tryz.func54, Tryz.ntmps54
  go_wp2
  go_loopw [3, 4, 5] (fun i _ _ wr => ∃ k : Nat, k ≤ A.length ∧ i = .int .i64 k ∧ (∀ j, j < k → rowB (inputsS A) (A.getD j []) = true) ∧ Below w.heap.size w wr) (fun i _ _ _ => A.length - (intOf i).toNat)
  case atStart => exact ⟨0, by omega, rfl, fun j h => by omega, Below.refl _ _⟩
  case round =>
    obtain ⟨k, hk, rfl, he, hbel⟩ := hrel
    have HR := Lib.hid he; have HBL := Lib.hid hbel
    by_cases hlt : k < A.length
    · have h1 : (k:Int) < A.length := by omega
      have h3 : (0:Int) < A.length := by omega
      have h6 : 0 < A.length := by omega
      have h0 : 0 ≤ (k:Int) := by omega
      have va := HA.out.mono hbel
      obtain ⟨b1, o1, rfl, g1, ra, rc, p0, p1⟩ := va.1.at hlt
      obtain ⟨b2, o2, hbo, g2, ra0, rc0, q0, q1⟩ := va.1.at (show 0 < A.length by omega)
      simp only [Option.some.injEq, Addr.mk.injEq, and_true] at hbo
      obtain ⟨rfl, rfl⟩ := hbo
      have HP := Lib.hid p1
      have hin : (A.getD 0 []).length = inputsS A := by cases A <;> simp [inputsS]
      rw [hin] at q0
      clear va he hbel p1 q1 hin
      simp only [Nat.zero_mul, Nat.add_zero, Nat.mul_one] at p0 q0
      generalize hgx : A.getD k [] = l at *
      have HX := Lib.hid hgx; clear hgx
      have hfalse : rowB (inputsS A) l = false → rightS A = false := by
        intro h
        unfold rightS; rw [List.all_eq_false]
        exact ⟨l, by rw [← HX.out, List.getD_eq_getElem?_getD]; simp [hlt], by simp [h]⟩
      have HF := Lib.hid hfalse; clear hfalse
      by_cases hln : l.length = inputsS A
      · have h5 : ((l.length : Int) != inputsS A) = false := by simp [hln]
        have HLN := Lib.hid hln; clear hln
        go_wp2
        go_region_held3 (fun w' => ∀ b o, b < wr.heap.size → w'.cell? ⟨b, o, none⟩ = wr.cell? ⟨b, o, none⟩) (first | exact olds (Below.refl _ _) | exact olds ((Below.refl _ _).drew) | exact olds ‹Below wr.heap.size wr _›)  (fail)
        go_wp2
        go_loopw [4, 5] (fun i _ wr => ∃ j : Nat, j ≤ l.length ∧ i = .int .i64 j ∧ (∀ t, t < j → l.getD t 0 ≤ 9) ∧ Below w.heap.size w wr) (fun i _ _ => l.length - (intOf i).toNat)
        case atStart => exact ⟨0, by omega, rfl, fun j h => by omega, HBL.out.drew⟩
        case round =>
          obtain ⟨j, hj, rfl, ht, hb2⟩ := hrel
          have HT := Lib.hid ht; have HB2 := Lib.hid hb2
          obtain ⟨b1, o1, e1, g1, ra, rc, p0, p1⟩ := (HA.out.mono hb2).1.at hlt
          simp only [Option.some.injEq, Addr.mk.injEq, and_true] at e1
          obtain ⟨rfl, rfl⟩ := e1
          rw [HX.out] at p0 p1
          simp only [Nat.mul_one] at p0
          by_cases hjl : j < l.length
          · have s1 : (j:Int) < l.length := by omega
            have s0 : 0 ≤ (j:Int) := by omega
            obtain ⟨b3, o3, rfl, g3, c3, d3, r0, r1, r2, r3, r4, r5, r6⟩ := p1.1.at hjl
            obtain ⟨x, hxe⟩ : ∃ x, x = l.getD j 0 := ⟨_, rfl⟩
            rw [← hxe] at r0 r1 r2 r4
            have hx : x ≤ 10 := by rw [hxe]; exact getD_le p1.2.2 hjl
            have HXE := Lib.hid hxe
            have hll := p1.2.1
            clear ht hb2 p1 hxe
            by_cases hx9 : x ≤ 9
            · have hd : decide (x ≤ 9) = true := by simp [hx9]
              go_wp2_with (go_at_call 82; refine (right06 x hx _ _ _).mono ?_; rintro e w1 ⟨rfl, hb3⟩; simp only [hd])
              refine ⟨⟨j + 1, by omega, by go_num, fun t h => ?_, bthen HB2.out hb3⟩, by simp [intOf]; omega⟩
              rcases Nat.lt_succ_iff_lt_or_eq.1 h with h | rfl
              · exact HT.out t h
              · rw [← HXE.out]; exact hx9
            · have hd : decide (x ≤ 9) = false := by simp; omega
              have hr : rightS A = false := HF.out (by
                unfold rowB
                have : (l.any fun x => decide (9 < x)) = true := List.any_eq_true.2 ⟨l[j], List.getElem_mem hjl, by
                  have e : l[j] = x := by rw [HXE.out, List.getD_eq_getElem?_getD, List.getElem?_eq_getElem hjl]; rfl
                  rw [e]; simp; omega⟩
                rw [this]; simp)
              go_wp2_with (go_at_call 82; refine (right06 x hx _ _ _).mono ?_; rintro e w1 ⟨rfl, hb3⟩; simp only [hd])
              go_ret
              exact ⟨by rw [hr]; rfl, bthen HB2.out hb3⟩
          · obtain rfl : j = l.length := by omega
            clear ht hb2 p1
            go_wp2
            refine ⟨⟨k + 1, by omega, by go_num, fun t h => ?_, HB2.out⟩, by simp [intOf]; omega⟩
            rcases Nat.lt_succ_iff_lt_or_eq.1 h with h | rfl
            · exact HR.out t h
            · rw [HX.out]
              unfold rowB
              have : (l.any fun x => decide (9 < x)) = false := by
                rw [List.any_eq_false]
                intro y hy
                obtain ⟨i, hi, rfl⟩ := List.getElem_of_mem hy
                have := HT.out i hi
                rw [List.getD_eq_getElem?_getD, List.getElem?_eq_getElem hi] at this
                simp at this ⊢; omega
              rw [this, HLN.out]; simp
      · have h5 : ((l.length : Int) != inputsS A) = true := by simp; omega
        have hr : rightS A = false := HF.out (by unfold rowB; rw [show (l.length == inputsS A) = false by simpa using hln]; rfl)
        go_wp2
        go_region_held3 (fun w' => ∀ b o, b < wr.heap.size → w'.cell? ⟨b, o, none⟩ = wr.cell? ⟨b, o, none⟩) (first | exact olds (Below.refl _ _) | exact olds ((Below.refl _ _).drew) | exact olds ‹Below wr.heap.size wr _›)  (fail)
        go_wp2
        go_ret
        exact ⟨by rw [hr]; rfl, HBL.out.drew⟩
    · obtain rfl : k = A.length := by omega
      clear he hbel
      go_wp2
      go_ret
      have hr : rightS A = true := by
        unfold rightS; rw [List.all_eq_true]
        intro l hl
        obtain ⟨j, hj, rfl⟩ := List.getElem_of_mem hl
        have := HR.out j hj
        rwa [List.getD_eq_getElem?_getD, List.getElem?_eq_getElem hj] at this
      exact ⟨by rw [hr]; rfl, HBL.out⟩
end Go.Proofs.YtoiemkifgdnhaaaGreatDoor
